/-
  Lemmas of this claim, in their order (GyX7, GyQ1, GyY1, GyY2, GyY3, GyY4, GyY5, GyY6, GyY7, GyH, GyK, GyK2, GyK3, GyK4, GyT2, GyK5, GyK6, GyK7).
  Conditions: those of each theorem.
-/
import Derived.Test.YteoefgffimgcmaaDoorGz02
import Derived.Test.YteoefgffimgcmaaDoorCards
import Derived.Test.YteoefgffimgcmaaDoorTie
import Derived.WalkKit
import Derived.ProofKit
import Derived.OpenShut
import Derived.Below
import Derived.ChangeSame
import Derived.Deep.DeepHandedRow
import Derived.Lib.LaidTab
import Derived.ArgAppend
namespace Go.Gy
set_option linter.unusedSimpArgs false
set_option linter.unusedVariables false
open Go Go.RowKit Go.Proofs
@[simp] theorem idsV_fa (D : Nat → Prop) (n : Nat) (k : IntKind) (f : Nat → Int) : idsV D (.agg (fa n k f)) ↔ True := by
  refine ⟨fun _ => trivial, fun _ x hx => ?_⟩
  obtain ⟨m, rfl⟩ := fa_mem hx
  trivial
theorem and_low (z : Int) (h0 : 0 ≤ z) (h1 : z < 18446744073709551616) : bitI .and .u64 z 4294967295 = z % 4294967296 := by
  rw [← and_low32 z h0 h1]; rfl
theorem mul64_ret (x y : Int) (hx0 : 0 ≤ x) (hx : x < 18446744073709551616) (hy0 : 0 ≤ y) (hy : y < 18446744073709551616) : Ret Tryd.prog G0 102 #[.int .u64 x, .int .u64 y] (.tuple #[.int .u64 (x * y / 18446744073709551616), .int .u64 (x * y % 18446744073709551616)]) := by
  refine ret_of G0F Tryd.func102 rfl Tryd.call102 (by simp) (by simp) (by simp [Tryd.ntmps102]) ?_
  intro C hC hC0 hY
  have f32 : ∀ z : Int, z.fdiv 4294967296 = z / 4294967296 := fun z => Int.fdiv_eq_ediv_of_nonneg z (by omega)
  have a1 := and_low x hx0 hx
  have a2 := and_low y hy0 hy
  have a3 : ∀ z : Int, bitI .and .u64 (z % 18446744073709551616) 4294967295 = z % 18446744073709551616 % 4294967296 := fun z => and_low _ (by omega) (by omega)
  repeat' (first | refine GW_seq ?_ | simp only [List.length_cons, List.length_nil, Nat.reduceAdd, Nat.reduceMul, wN] | ((first | refine GW_region' [] (by kernel_rfl) ?_ | refine GW_draw' [] follows (by kernel_rfl) (by kernel_rfl) ?_); intro Q hQ hP; simp [hC, hY, f32, a1, a2, a3]; (first | refine hQ _ _ _ _ ?_ | refine hQ _ _ _ _ (by kernel_rfl) ?_ | refine hP _ _ (fun _ => ?_) | refine hP _ _ (by kernel_rfl) (fun _ => ?_)); clear hQ hP Q) | refine GW_block ?_ | refine GW_ret ?_ | refine GW_skip ?_ | refine GW_exit ?_ | refine GW_goto ?_ | refine GW_label ?_ | simp only [blockG_exit] | (refine GW_cond (by simp; rfl) ?_ ?_ <;> (intro hb; first | (exfalso; exact absurd hb (by decide)) | skip)))
  refine ⟨.inr trivial, ?_⟩
  have := mul64_arith x y hx0 hx hy0 hy
  simpa [Tryd.results102] using this
@[simp] theorem mul64 (x y : Int) (hx0 : 0 ≤ x) (hx : x < 18446744073709551616) (hy0 : 0 ≤ y) (hy : y < 18446744073709551616) (K : Value → Prop) : callK Tryd.prog G0 102 #[.int .u64 x, .int .u64 y] K ↔ K (.tuple #[.int .u64 (x * y / 18446744073709551616), .int .u64 (x * y % 18446744073709551616)]) := callK_iff G0W (by kernel_rfl) (mul64_ret x y hx0 hx hy0 hy)
theorem wi_mod (z y : Int) (k : Nat) (h : z % 115792089237316195423570985008687907853269984665640564039457584007913129639936 = y % 115792089237316195423570985008687907853269984665640564039457584007913129639936) (hk : k < 4) : wi z k = wi y k := by
  have : k = 0 ∨ k = 1 ∨ k = 2 ∨ k = 3 := by omega
  rcases this with rfl | rfl | rfl | rfl <;> simp only [wi] <;> omega
theorem wum_p (z : Int) (h : ng z = true) (k : Nat) (hk : k < 4) : wi (-z) k = wi (um z) k := wi_mod _ _ _ (by
  rw [ng_sz] at h; simp at h; have := sz_mod z; unfold um; rw [if_pos h]; omega) hk
theorem wum_m (z : Int) (h : ng z = false) (k : Nat) (hk : k < 4) : wi z k = wi (um z) k := wi_mod _ _ _ (by
  rw [ng_sz] at h; simp at h; have := sz_mod z; unfold um; rw [if_neg (by omega)]; omega) hk
theorem wn_bd (A B : Int) (i k : Nat) : 0 ≤ wi A i * wi B k ∧ 0 ≤ wi A i * wi B k % 18446744073709551616 ∧ 0 ≤ (wi A i * wi B k + wi (wprow A B i) (i + k)) % 18446744073709551616 := by
  have h1 := wi_ge A i; have h2 := wi_ge B k
  exact ⟨Int.mul_nonneg h1 h2, Int.emod_nonneg _ (by omega), Int.emod_nonneg _ (by omega)⟩
theorem wmodS (A B : Int) (i k : Nat) : (wi A i * wi B k + wi (wprow A B i) (i + k) + wpcar A B i k) % 18446744073709551616 = wi (wprow A B (i + 1)) (i + k) := by
  rw [← wpdig A B i k]; congr 1; omega
theorem wdivS (A B : Int) (i k : Nat) : (wi A i * wi B k / 18446744073709551616 + (wi A i * wi B k % 18446744073709551616 + wi (wprow A B i) (i + k)) / 18446744073709551616 + ((wi A i * wi B k + wi (wprow A B i) (i + k)) % 18446744073709551616 + wpcar A B i k) / 18446744073709551616) % 18446744073709551616 = wpcar A B i (k + 1) := by
  have h := (wstep (wi A i) (wi B k) (wi (wprow A B i) (i + k)) (wpcar A B i k) ⟨wi_ge _ _, wi_lt _ _⟩ ⟨wi_ge _ _, wi_lt _ _⟩ ⟨wi_ge _ _, wi_lt _ _⟩ (wpcar_bd A B i k)).2
  rw [← wpcar_succ, ← h]
  simp
def mwSt (q : Nat) (mi : Bool) (A B : Int) (i : Nat) : GS :=
  ⟨tsL [(2, .pointer (some ⟨200, 0, none⟩)), (3, .pointer (some ⟨208, 0, none⟩)), (4, .pointer (some ⟨216, 0, none⟩)), (6, .bool mi), (7, .pointer (some ⟨q, 0, none⟩)), (40, .agg (fa 4 .u64 (wi A))), (41, .int .i64 i)],
   hpL G0 [(200, ⟨fa 4 .u64 (wi A), .ty 48⟩), (208, ⟨fa 4 .u64 (wi B), .ty 48⟩), (216, ⟨fa 4 .u64 fun _ => 0, .ty 48⟩), (q, ⟨fa 8 .u64 (wi (wprow A B i)), .ty 87⟩)], 600, 0⟩
def mwSt2 (q : Nat) (mi : Bool) (A B : Int) (i k : Nat) : GS :=
  ⟨tsL [(2, .pointer (some ⟨200, 0, none⟩)), (3, .pointer (some ⟨208, 0, none⟩)), (4, .pointer (some ⟨216, 0, none⟩)), (6, .bool mi), (7, .pointer (some ⟨q, 0, none⟩)), (40, .agg (fa 4 .u64 (wi A))), (41, .int .i64 i),
      (8, .int .i64 i), (9, .int .u64 (wi A i)), (10, .int .u64 (wpcar A B i k)), (45, .agg (fa 4 .u64 (wi B))), (46, .int .i64 k)],
   hpL G0 [(200, ⟨fa 4 .u64 (wi A), .ty 48⟩), (208, ⟨fa 4 .u64 (wi B), .ty 48⟩), (216, ⟨fa 4 .u64 fun _ => 0, .ty 48⟩), (q, ⟨fa 8 .u64 (wpout A B i k), .ty 87⟩)], 600, 0⟩
theorem or_zero {x y : Int} (hx0 : 0 ≤ x) (hx : x < 18446744073709551616) (hy0 : 0 ≤ y) (hy : y < 18446744073709551616) : (bitI .or .u64 x y = 0 ↔ x = 0 ∧ y = 0) ∧ 0 ≤ bitI .or .u64 x y ∧ bitI .or .u64 x y < 18446744073709551616 := by
  have e : bitI .or .u64 x y = ((BitVec.ofInt 64 x ||| BitVec.ofInt 64 y : BitVec 64).toNat : Int) % 18446744073709551616 := by
    unfold bitI
    show IntKind.u64.wrap ((BitVec.ofInt 64 x ||| BitVec.ofInt 64 y : BitVec 64).toNat : Int) = _
    rw [wrap_u64]
  have hx' : (BitVec.ofInt 64 x).toNat = x.toNat := by
    rw [BitVec.toNat_ofInt]; congr 1; exact Int.emod_eq_of_lt hx0 hx
  have hy' : (BitVec.ofInt 64 y).toNat = y.toNat := by
    rw [BitVec.toNat_ofInt]; congr 1; exact Int.emod_eq_of_lt hy0 hy
  have hb := (BitVec.ofInt 64 x ||| BitVec.ofInt 64 y).isLt
  rw [e]
  refine ⟨?_, Int.emod_nonneg _ (by omega), Int.emod_lt_of_pos _ (by omega)⟩
  rw [Int.emod_eq_of_lt (by omega) (by omega), BitVec.toNat_or, hx', hy']
  constructor
  · intro h
    have h1 : x.toNat ||| y.toNat = 0 := by omega
    have := Nat.or_eq_zero_iff.1 h1
    omega
  · rintro ⟨rfl, rfl⟩; rfl
theorem wi_shift (D : Int) (j : Nat) (h : 4 ≤ j := by omega) : wi D j = wi (D / 115792089237316195423570985008687907853269984665640564039457584007913129639936) (j - 4) := by
  unfold wi
  have e : 64 * j = 64 * 4 + 64 * (j - 4) := by omega
  rw [e, Int.pow_add, ← Int.ediv_ediv_of_nonneg (Int.le_of_lt (pow64_pos 4))]
  rfl
def ovD (D : Int) : Bool := decide (115792089237316195423570985008687907853269984665640564039457584007913129639936 ≤ D)
def orW (D : Int) : Int := bitI .or .u64 (bitI .or .u64 (bitI .or .u64 (wi D 4) (wi D 5)) (wi D 6)) (wi D 7)
theorem or_ov (D : Int) (h0 : 0 ≤ D) (h1 : D < 115792089237316195423570985008687907853269984665640564039457584007913129639936 * 115792089237316195423570985008687907853269984665640564039457584007913129639936) :
    (!orW D == 0) = ovD D := by
  unfold orW
  have o1 := or_zero (wi_ge D 4) (wi_lt D 4) (wi_ge D 5) (wi_lt D 5)
  have o2 := or_zero o1.2.1 o1.2.2 (wi_ge D 6) (wi_lt D 6)
  have o3 := or_zero o2.2.1 o2.2.2 (wi_ge D 7) (wi_lt D 7)
  rw [Bool.eq_iff_iff]
  simp only [Bool.not_eq_true', beq_eq_false_iff_ne, ne_eq, ovD, decide_eq_true_eq]
  rw [o3.1, o2.1, o1.1, wi_shift D 4, wi_shift D 5, wi_shift D 6, wi_shift D 7]
  have hE : 0 ≤ D / 115792089237316195423570985008687907853269984665640564039457584007913129639936 ∧ D / 115792089237316195423570985008687907853269984665640564039457584007913129639936 < 115792089237316195423570985008687907853269984665640564039457584007913129639936 := ⟨by omega, by omega⟩
  have hD : 115792089237316195423570985008687907853269984665640564039457584007913129639936 ≤ D ↔ D / 115792089237316195423570985008687907853269984665640564039457584007913129639936 ≠ 0 := by omega
  rw [hD]
  generalize D / 115792089237316195423570985008687907853269984665640564039457584007913129639936 = E at *
  simp only [wi]
  omega
set_option maxHeartbeats 2000000 in
theorem wmul_ret (a b : Int) : Ret Tryd.prog G0 72 #[wd a, wd b] (.tuple #[wd (sz a * sz b), .bool (mulO a b)]) := by
  refine ret_of G0F Tryd.func72 rfl Tryd.call72 (by simp) (by simp) (by simp [Tryd.ntmps72]) ?_
  intro C hC hC0 hY
  have hA := um_bd a
  have hB := um_bd b
  have hB0 : 0 ≤ um b := hB.1
  have hB1 : um b < 2 ^ (64 * 4) := by have := hB.2; omega
  obtain ⟨D, hD⟩ : ∃ D, um a * um b = D := ⟨_, rfl⟩
  have eD : wprow (um a) (um b) 4 = D := by rw [← hD]; unfold wprow; rw [Int.emod_eq_of_lt (by omega) (by omega)]
  have hbd : 0 ≤ D ∧ D ≤ 57896044618658097711785492504343953926634992332820282019728792003956564819968 * 57896044618658097711785492504343953926634992332820282019728792003956564819968 := by
    rw [← hD]
    exact ⟨Int.mul_nonneg hA.1 hB.1, Int.mul_le_mul hA.2 hB.2 hB.1 (by omega)⟩
  have hor := or_ov D hbd.1 (by have := hbd.2; omega)
  have hs1 := prod_same a b
  have hs2 := prod_other a b
  rw [hD] at hs1 hs2
  cases ha : ng a <;> cases hq : ng b
  all_goals
    repeat' (first | refine GW_seq ?_ | simp only [List.length_cons, List.length_nil, Nat.reduceAdd, Nat.reduceMul, wN] | ((first | refine GW_region' [] (by kernel_rfl) ?_ | refine GW_draw' [] follows (by kernel_rfl) (by kernel_rfl) ?_); intro Q hQ hP; simp [hC, hY, ha, hq]; (first | refine hQ _ _ _ _ ?_ | refine hQ _ _ _ _ (by kernel_rfl) ?_ | refine hP _ _ (fun _ => ?_) | refine hP _ _ (by kernel_rfl) (fun _ => ?_)); clear hQ hP Q) | refine GW_block ?_ | refine GW_ret ?_ | refine GW_skip ?_ | refine GW_exit ?_ | refine GW_goto ?_ | refine GW_label ?_ | simp only [blockG_exit] | (refine GW_cond (by simp; rfl) ?_ ?_ <;> (intro hb; first | (exfalso; exact absurd hb (by decide)) | skip)))
  · have hn : (ng a == ng b) = true := by rw [ha, hq]; rfl
    refine GW_for 4 (mwSt 312 false (um a) (um b)) ?_ ?_ ?_
    · have e1 := wum_m a ha
      have e2 := wum_m b hq
      refine weakL _ 600 hC G0F (m0 := []) hC0 (by omega) ?_ ?_ ?_
      · simp [dom, fa_4, e1]
      · simp [fa_ids, fa_4, fa_8, e1, e2, wprow, Int.emod_one, wi_zero]
      · simp
    · intro i hi
      have hi' : (i : Int) < 4 := by omega
      have hz : (0 : Int) ≤ i := by omega
      have hs : Int.bmod ((i : Int) + 1) 18446744073709551616 = ((i + 1 : Nat) : Int) := by rw [bm (by omega) (by omega)]; rfl
      unfold mwSt
      repeat' (first | refine GW_seq ?_ | simp only [List.length_cons, List.length_nil, Nat.reduceAdd, Nat.reduceMul, wN] | ((first | refine GW_region' [] (by kernel_rfl) ?_ | refine GW_draw' [] follows (by kernel_rfl) (by kernel_rfl) ?_); intro Q hQ hP; simp [hC, hY, hi, hi', hz, hs, fa_get]; (first | refine hQ _ _ _ _ ?_ | refine hQ _ _ _ _ (by kernel_rfl) ?_ | refine hP _ _ (fun _ => ?_) | refine hP _ _ (by kernel_rfl) (fun _ => ?_)); clear hQ hP Q) | refine GW_block ?_ | refine GW_ret ?_ | refine GW_skip ?_ | refine GW_exit ?_ | refine GW_goto ?_ | refine GW_label ?_ | simp only [blockG_exit] | (refine GW_cond (by simp; rfl) ?_ ?_ <;> (intro hb; first | (exfalso; exact absurd hb (by decide)) | skip)))
      refine GW_for 4 (mwSt2 312 false (um a) (um b) i) ?_ ?_ ?_
      · refine weakL _ 600 hC G0F (m0 := []) hC0 (by omega) ?_ ?_ ?_
        · simp [dom, wpcar_zero]
        · have e : fa 8 .u64 (wpout (um a) (um b) i 0) = fa 8 .u64 (wi (wprow (um a) (um b) i)) := fa_congr fun j _ => by unfold wpout; rw [if_neg (by omega)]
          simp [e, fa_ids]
        · simp
      · intro k hk
        have hk' : (k : Int) < 4 := by omega
        have hkz : (0 : Int) ≤ k := by omega
        have hs2 : Int.bmod ((k : Int) + 1) 18446744073709551616 = ((k + 1 : Nat) : Int) := by rw [bm (by omega) (by omega)]; rfl
        have hik : Int.bmod ((i : Int) + k) 18446744073709551616 = ((i + k : Nat) : Int) := by rw [bm (by omega) (by omega)]; rfl
        have hik2 : i + k < 8 := by omega
        have hik3 : (i : Int) + k < 8 := by omega
        have hik4 : (0 : Int) ≤ (i : Int) + k := by omega
        have hik5 : ((i : Int) + k).toNat = i + k := by omega
        have hik6 : (i : Int) + k ≤ 7 := by omega
        have hik7 : i + k ≤ 7 := by omega
        have hn := wn_bd (um a) (um b) i k
        have hc := wpcar_bd (um a) (um b) i k
        unfold mwSt2
        repeat' (first | refine GW_seq ?_ | simp only [List.length_cons, List.length_nil, Nat.reduceAdd, Nat.reduceMul, wN] | ((first | refine GW_region' [] (by kernel_rfl) ?_ | refine GW_draw' [] follows (by kernel_rfl) (by kernel_rfl) ?_); intro Q hQ hP; simp [hC, hY, hi, hi', hz, hk, hk', hkz, hik, hik2, hik3, hik4, hik5, hik6, hik7, hs2, fa_get, fa_set, wi_ge, wi_lt, hn.1, hn.2.1, hn.2.2, hc.1]; (first | refine hQ _ _ _ _ ?_ | refine hQ _ _ _ _ (by kernel_rfl) ?_ | refine hP _ _ (fun _ => ?_) | refine hP _ _ (by kernel_rfl) (fun _ => ?_)); clear hQ hP Q) | refine GW_block ?_ | refine GW_ret ?_ | refine GW_skip ?_ | refine GW_exit ?_ | refine GW_goto ?_ | refine GW_label ?_ | simp only [blockG_exit] | (refine GW_cond (by simp; rfl) ?_ ?_ <;> (intro hb; first | (exfalso; exact absurd hb (by decide)) | skip)))
        refine weakL _ 600 hC G0F (m0 := []) hC0 (by omega) ?_ ?_ ?_
        · simp [dom, hs2, wdivS]
        · have e : fa 8 .u64 (upd (wpout (um a) (um b) i k) (i + k) (wi (wprow (um a) (um b) (i + 1)) (i + k))) = fa 8 .u64 (wpout (um a) (um b) i (k + 1)) := fa_congr fun j _ => wpout_step (um a) (um b) i k j
          simp [fa_ids, wmodS, e]
        · simp
      · have hi8 : Int.bmod ((i : Int) + 4) 18446744073709551616 = (i : Int) + 4 := bm (by omega) (by omega)
        have hi9 : (0 : Int) ≤ (i : Int) + 4 := by omega
        have hi10 : ((i : Int) + 4).toNat = i + 4 := by omega
        have hi11 : (i : Int) + 4 < 8 := by omega
        have hi12 : (i : Int) ≤ 3 := by omega
        have hi14 : i ≤ 3 := by omega
        have hi13 : i + 4 < 8 := by omega
        unfold mwSt2
        repeat' (first | refine GW_seq ?_ | simp only [List.length_cons, List.length_nil, Nat.reduceAdd, Nat.reduceMul, wN] | ((first | refine GW_region' [] (by kernel_rfl) ?_ | refine GW_draw' [] follows (by kernel_rfl) (by kernel_rfl) ?_); intro Q hQ hP; simp [hC, hY, hi, hi', hz, hs, hi8, hi9, hi10, hi11, hi12, hi13, hi14, fa_set]; (first | refine hQ _ _ _ _ ?_ | refine hQ _ _ _ _ (by kernel_rfl) ?_ | refine hP _ _ (fun _ => ?_) | refine hP _ _ (by kernel_rfl) (fun _ => ?_)); clear hQ hP Q) | refine GW_block ?_ | refine GW_ret ?_ | refine GW_skip ?_ | refine GW_exit ?_ | refine GW_goto ?_ | refine GW_label ?_ | simp only [blockG_exit] | (refine GW_cond (by simp; rfl) ?_ ?_ <;> (intro hb; first | (exfalso; exact absurd hb (by decide)) | skip)))
        refine weakL _ 600 hC G0F (m0 := []) hC0 (by omega) ?_ ?_ ?_
        · simp [dom, hs]
        · have e : fa 8 .u64 (upd (wpout (um a) (um b) i 4) (i + 4) (wpcar (um a) (um b) i 4)) = fa 8 .u64 (wi (wprow (um a) (um b) (i + 1))) := fa_congr fun j _ => wpout_end (um a) (um b) i hB0 hB1 j
          simp [fa_ids, e]
        · simp
    · unfold mwSt
      rw [eD]
      by_cases hx : orW D = 0
      · have hov : ovD D = false := by rw [← hor]; simp [hx]
        unfold orW at hx
        repeat' (first | refine GW_seq ?_ | simp only [List.length_cons, List.length_nil, Nat.reduceAdd, Nat.reduceMul, wN] | ((first | refine GW_region' [] (by kernel_rfl) ?_ | refine GW_draw' [] follows (by kernel_rfl) (by kernel_rfl) ?_); intro Q hQ hP; simp [hC, hY, fa_8, fa_4, hx]; (first | refine hQ _ _ _ _ ?_ | refine hQ _ _ _ _ (by kernel_rfl) ?_ | refine hP _ _ (fun _ => ?_) | refine hP _ _ (by kernel_rfl) (fun _ => ?_)); clear hQ hP Q) | refine GW_block ?_ | refine GW_ret ?_ | refine GW_skip ?_ | refine GW_exit ?_ | refine GW_goto ?_ | refine GW_label ?_ | simp only [blockG_exit] | (refine GW_cond (by simp; rfl) ?_ ?_ <;> (intro hb; first | (exfalso; exact absurd hb (by decide)) | skip)))
        refine ⟨.inr trivial, ?_⟩
        rw [ovD] at hov
        simp [Tryd.results72, hs1 hn, mulO, hx]
        rw [Bool.eq_iff_iff]
        simp [ng_sz]
        have h3 := sz_small D hbd.1 (by simpa using hov)
        simp at hov
        omega
      · have hov : ovD D = true := by rw [← hor]; simp [hx]
        unfold orW at hx
        have hx2 : (bitI .or .u64 (bitI .or .u64 (bitI .or .u64 (wi D 4) (wi D 5)) (wi D 6)) (wi D 7) == 0) = false := by simpa using hx
        have hx3 : (bitI .or .u64 (bitI .or .u64 (bitI .or .u64 (wi D 4) (wi D 5)) (wi D 6)) (wi D 7) != 0) = true := by simpa using hx
        repeat' (first | refine GW_seq ?_ | simp only [List.length_cons, List.length_nil, Nat.reduceAdd, Nat.reduceMul, wN] | ((first | refine GW_region' [] (by kernel_rfl) ?_ | refine GW_draw' [] follows (by kernel_rfl) (by kernel_rfl) ?_); intro Q hQ hP; simp [hC, hY, fa_8, fa_4, hx, hx2, hx3]; (first | refine hQ _ _ _ _ ?_ | refine hQ _ _ _ _ (by kernel_rfl) ?_ | refine hP _ _ (fun _ => ?_) | refine hP _ _ (by kernel_rfl) (fun _ => ?_)); clear hQ hP Q) | refine GW_block ?_ | refine GW_ret ?_ | refine GW_skip ?_ | refine GW_exit ?_ | refine GW_goto ?_ | refine GW_label ?_ | simp only [blockG_exit] | (refine GW_cond (by simp; rfl) ?_ ?_ <;> (intro hb; first | (exfalso; exact absurd hb (by decide)) | skip)))
        refine ⟨.inr trivial, ?_⟩
        rw [ovD] at hov
        simp [Tryd.results72, hs1 hn, mulO, hx]
        simp at hov
        omega
  · have hn : (ng a == ng b) = false := by rw [ha, hq]; rfl
    refine GW_for 4 (mwSt 360 true (um a) (um b)) ?_ ?_ ?_
    · have e1 := wum_m a ha
      have e2 := wum_p b hq
      refine weakL _ 600 hC G0F (m0 := []) hC0 (by omega) ?_ ?_ ?_
      · simp [dom, fa_4, e1]
      · simp [fa_ids, fa_4, fa_8, e1, e2, wprow, Int.emod_one, wi_zero]
      · simp
    · intro i hi
      have hi' : (i : Int) < 4 := by omega
      have hz : (0 : Int) ≤ i := by omega
      have hs : Int.bmod ((i : Int) + 1) 18446744073709551616 = ((i + 1 : Nat) : Int) := by rw [bm (by omega) (by omega)]; rfl
      unfold mwSt
      repeat' (first | refine GW_seq ?_ | simp only [List.length_cons, List.length_nil, Nat.reduceAdd, Nat.reduceMul, wN] | ((first | refine GW_region' [] (by kernel_rfl) ?_ | refine GW_draw' [] follows (by kernel_rfl) (by kernel_rfl) ?_); intro Q hQ hP; simp [hC, hY, hi, hi', hz, hs, fa_get]; (first | refine hQ _ _ _ _ ?_ | refine hQ _ _ _ _ (by kernel_rfl) ?_ | refine hP _ _ (fun _ => ?_) | refine hP _ _ (by kernel_rfl) (fun _ => ?_)); clear hQ hP Q) | refine GW_block ?_ | refine GW_ret ?_ | refine GW_skip ?_ | refine GW_exit ?_ | refine GW_goto ?_ | refine GW_label ?_ | simp only [blockG_exit] | (refine GW_cond (by simp; rfl) ?_ ?_ <;> (intro hb; first | (exfalso; exact absurd hb (by decide)) | skip)))
      refine GW_for 4 (mwSt2 360 true (um a) (um b) i) ?_ ?_ ?_
      · refine weakL _ 600 hC G0F (m0 := []) hC0 (by omega) ?_ ?_ ?_
        · simp [dom, wpcar_zero]
        · have e : fa 8 .u64 (wpout (um a) (um b) i 0) = fa 8 .u64 (wi (wprow (um a) (um b) i)) := fa_congr fun j _ => by unfold wpout; rw [if_neg (by omega)]
          simp [e, fa_ids]
        · simp
      · intro k hk
        have hk' : (k : Int) < 4 := by omega
        have hkz : (0 : Int) ≤ k := by omega
        have hs2 : Int.bmod ((k : Int) + 1) 18446744073709551616 = ((k + 1 : Nat) : Int) := by rw [bm (by omega) (by omega)]; rfl
        have hik : Int.bmod ((i : Int) + k) 18446744073709551616 = ((i + k : Nat) : Int) := by rw [bm (by omega) (by omega)]; rfl
        have hik2 : i + k < 8 := by omega
        have hik3 : (i : Int) + k < 8 := by omega
        have hik4 : (0 : Int) ≤ (i : Int) + k := by omega
        have hik5 : ((i : Int) + k).toNat = i + k := by omega
        have hik6 : (i : Int) + k ≤ 7 := by omega
        have hik7 : i + k ≤ 7 := by omega
        have hn := wn_bd (um a) (um b) i k
        have hc := wpcar_bd (um a) (um b) i k
        unfold mwSt2
        repeat' (first | refine GW_seq ?_ | simp only [List.length_cons, List.length_nil, Nat.reduceAdd, Nat.reduceMul, wN] | ((first | refine GW_region' [] (by kernel_rfl) ?_ | refine GW_draw' [] follows (by kernel_rfl) (by kernel_rfl) ?_); intro Q hQ hP; simp [hC, hY, hi, hi', hz, hk, hk', hkz, hik, hik2, hik3, hik4, hik5, hik6, hik7, hs2, fa_get, fa_set, wi_ge, wi_lt, hn.1, hn.2.1, hn.2.2, hc.1]; (first | refine hQ _ _ _ _ ?_ | refine hQ _ _ _ _ (by kernel_rfl) ?_ | refine hP _ _ (fun _ => ?_) | refine hP _ _ (by kernel_rfl) (fun _ => ?_)); clear hQ hP Q) | refine GW_block ?_ | refine GW_ret ?_ | refine GW_skip ?_ | refine GW_exit ?_ | refine GW_goto ?_ | refine GW_label ?_ | simp only [blockG_exit] | (refine GW_cond (by simp; rfl) ?_ ?_ <;> (intro hb; first | (exfalso; exact absurd hb (by decide)) | skip)))
        refine weakL _ 600 hC G0F (m0 := []) hC0 (by omega) ?_ ?_ ?_
        · simp [dom, hs2, wdivS]
        · have e : fa 8 .u64 (upd (wpout (um a) (um b) i k) (i + k) (wi (wprow (um a) (um b) (i + 1)) (i + k))) = fa 8 .u64 (wpout (um a) (um b) i (k + 1)) := fa_congr fun j _ => wpout_step (um a) (um b) i k j
          simp [fa_ids, wmodS, e]
        · simp
      · have hi8 : Int.bmod ((i : Int) + 4) 18446744073709551616 = (i : Int) + 4 := bm (by omega) (by omega)
        have hi9 : (0 : Int) ≤ (i : Int) + 4 := by omega
        have hi10 : ((i : Int) + 4).toNat = i + 4 := by omega
        have hi11 : (i : Int) + 4 < 8 := by omega
        have hi12 : (i : Int) ≤ 3 := by omega
        have hi14 : i ≤ 3 := by omega
        have hi13 : i + 4 < 8 := by omega
        unfold mwSt2
        repeat' (first | refine GW_seq ?_ | simp only [List.length_cons, List.length_nil, Nat.reduceAdd, Nat.reduceMul, wN] | ((first | refine GW_region' [] (by kernel_rfl) ?_ | refine GW_draw' [] follows (by kernel_rfl) (by kernel_rfl) ?_); intro Q hQ hP; simp [hC, hY, hi, hi', hz, hs, hi8, hi9, hi10, hi11, hi12, hi13, hi14, fa_set]; (first | refine hQ _ _ _ _ ?_ | refine hQ _ _ _ _ (by kernel_rfl) ?_ | refine hP _ _ (fun _ => ?_) | refine hP _ _ (by kernel_rfl) (fun _ => ?_)); clear hQ hP Q) | refine GW_block ?_ | refine GW_ret ?_ | refine GW_skip ?_ | refine GW_exit ?_ | refine GW_goto ?_ | refine GW_label ?_ | simp only [blockG_exit] | (refine GW_cond (by simp; rfl) ?_ ?_ <;> (intro hb; first | (exfalso; exact absurd hb (by decide)) | skip)))
        refine weakL _ 600 hC G0F (m0 := []) hC0 (by omega) ?_ ?_ ?_
        · simp [dom, hs]
        · have e : fa 8 .u64 (upd (wpout (um a) (um b) i 4) (i + 4) (wpcar (um a) (um b) i 4)) = fa 8 .u64 (wi (wprow (um a) (um b) (i + 1))) := fa_congr fun j _ => wpout_end (um a) (um b) i hB0 hB1 j
          simp [fa_ids, e]
        · simp
    · unfold mwSt
      rw [eD]
      by_cases hx : orW D = 0
      · have hov : ovD D = false := by rw [← hor]; simp [hx]
        unfold orW at hx
        by_cases hzz : sz D = 0
        · have hw := words_z D hzz
          repeat' (first | refine GW_seq ?_ | simp only [List.length_cons, List.length_nil, Nat.reduceAdd, Nat.reduceMul, wN] | ((first | refine GW_region' [] (by kernel_rfl) ?_ | refine GW_draw' [] follows (by kernel_rfl) (by kernel_rfl) ?_); intro Q hQ hP; simp [hC, hY, fa_8, fa_4, hx, hw]; (first | refine hQ _ _ _ _ ?_ | refine hQ _ _ _ _ (by kernel_rfl) ?_ | refine hP _ _ (fun _ => ?_) | refine hP _ _ (by kernel_rfl) (fun _ => ?_)); clear hQ hP Q) | refine GW_block ?_ | refine GW_ret ?_ | refine GW_skip ?_ | refine GW_exit ?_ | refine GW_goto ?_ | refine GW_label ?_ | simp only [blockG_exit] | (refine GW_cond (by simp; rfl) ?_ ?_ <;> (intro hb; first | (exfalso; exact absurd hb (by decide)) | skip)))
          refine ⟨.inr trivial, ?_⟩
          rw [ovD] at hov
          simp [Tryd.results72, hs2 hn, mulO, hx]
          have := sz_small D hbd.1 (by simpa using hov)
          simp at hov
          omega
        · have hw := words_ne D hzz
          repeat' (first | refine GW_seq ?_ | simp only [List.length_cons, List.length_nil, Nat.reduceAdd, Nat.reduceMul, wN] | ((first | refine GW_region' [] (by kernel_rfl) ?_ | refine GW_draw' [] follows (by kernel_rfl) (by kernel_rfl) ?_); intro Q hQ hP; simp [hC, hY, fa_8, fa_4, hx, hw]; (first | refine hQ _ _ _ _ ?_ | refine hQ _ _ _ _ (by kernel_rfl) ?_ | refine hP _ _ (fun _ => ?_) | refine hP _ _ (by kernel_rfl) (fun _ => ?_)); clear hQ hP Q) | refine GW_block ?_ | refine GW_ret ?_ | refine GW_skip ?_ | refine GW_exit ?_ | refine GW_goto ?_ | refine GW_label ?_ | simp only [blockG_exit] | (refine GW_cond (by simp; rfl) ?_ ?_ <;> (intro hb; first | (exfalso; exact absurd hb (by decide)) | skip)))
          refine ⟨.inr trivial, ?_⟩
          rw [ovD] at hov
          simp [Tryd.results72, hs2 hn, mulO, hx]
          rw [Bool.eq_iff_iff]
          simp [ng_sz]
          have h3 := sz_small D hbd.1 (by simpa using hov)
          have h4 := sz_negl D hbd.1 (by simpa using hov)
          simp at hov
          omega
      · have hov : ovD D = true := by rw [← hor]; simp [hx]
        unfold orW at hx
        have hx2 : (bitI .or .u64 (bitI .or .u64 (bitI .or .u64 (wi D 4) (wi D 5)) (wi D 6)) (wi D 7) == 0) = false := by simpa using hx
        have hx3 : (bitI .or .u64 (bitI .or .u64 (bitI .or .u64 (wi D 4) (wi D 5)) (wi D 6)) (wi D 7) != 0) = true := by simpa using hx
        repeat' (first | refine GW_seq ?_ | simp only [List.length_cons, List.length_nil, Nat.reduceAdd, Nat.reduceMul, wN] | ((first | refine GW_region' [] (by kernel_rfl) ?_ | refine GW_draw' [] follows (by kernel_rfl) (by kernel_rfl) ?_); intro Q hQ hP; simp [hC, hY, fa_8, fa_4, hx, hx2, hx3]; (first | refine hQ _ _ _ _ ?_ | refine hQ _ _ _ _ (by kernel_rfl) ?_ | refine hP _ _ (fun _ => ?_) | refine hP _ _ (by kernel_rfl) (fun _ => ?_)); clear hQ hP Q) | refine GW_block ?_ | refine GW_ret ?_ | refine GW_skip ?_ | refine GW_exit ?_ | refine GW_goto ?_ | refine GW_label ?_ | simp only [blockG_exit] | (refine GW_cond (by simp; rfl) ?_ ?_ <;> (intro hb; first | (exfalso; exact absurd hb (by decide)) | skip)))
        refine ⟨.inr trivial, ?_⟩
        rw [ovD] at hov
        simp [Tryd.results72, hs2 hn, mulO, hx]
        simp at hov
        omega
  · have hn : (ng a == ng b) = false := by rw [ha, hq]; rfl
    refine GW_for 4 (mwSt 360 true (um a) (um b)) ?_ ?_ ?_
    · have e1 := wum_p a ha
      have e2 := wum_m b hq
      refine weakL _ 600 hC G0F (m0 := []) hC0 (by omega) ?_ ?_ ?_
      · simp [dom, fa_4, e1]
      · simp [fa_ids, fa_4, fa_8, e1, e2, wprow, Int.emod_one, wi_zero]
      · simp
    · intro i hi
      have hi' : (i : Int) < 4 := by omega
      have hz : (0 : Int) ≤ i := by omega
      have hs : Int.bmod ((i : Int) + 1) 18446744073709551616 = ((i + 1 : Nat) : Int) := by rw [bm (by omega) (by omega)]; rfl
      unfold mwSt
      repeat' (first | refine GW_seq ?_ | simp only [List.length_cons, List.length_nil, Nat.reduceAdd, Nat.reduceMul, wN] | ((first | refine GW_region' [] (by kernel_rfl) ?_ | refine GW_draw' [] follows (by kernel_rfl) (by kernel_rfl) ?_); intro Q hQ hP; simp [hC, hY, hi, hi', hz, hs, fa_get]; (first | refine hQ _ _ _ _ ?_ | refine hQ _ _ _ _ (by kernel_rfl) ?_ | refine hP _ _ (fun _ => ?_) | refine hP _ _ (by kernel_rfl) (fun _ => ?_)); clear hQ hP Q) | refine GW_block ?_ | refine GW_ret ?_ | refine GW_skip ?_ | refine GW_exit ?_ | refine GW_goto ?_ | refine GW_label ?_ | simp only [blockG_exit] | (refine GW_cond (by simp; rfl) ?_ ?_ <;> (intro hb; first | (exfalso; exact absurd hb (by decide)) | skip)))
      refine GW_for 4 (mwSt2 360 true (um a) (um b) i) ?_ ?_ ?_
      · refine weakL _ 600 hC G0F (m0 := []) hC0 (by omega) ?_ ?_ ?_
        · simp [dom, wpcar_zero]
        · have e : fa 8 .u64 (wpout (um a) (um b) i 0) = fa 8 .u64 (wi (wprow (um a) (um b) i)) := fa_congr fun j _ => by unfold wpout; rw [if_neg (by omega)]
          simp [e, fa_ids]
        · simp
      · intro k hk
        have hk' : (k : Int) < 4 := by omega
        have hkz : (0 : Int) ≤ k := by omega
        have hs2 : Int.bmod ((k : Int) + 1) 18446744073709551616 = ((k + 1 : Nat) : Int) := by rw [bm (by omega) (by omega)]; rfl
        have hik : Int.bmod ((i : Int) + k) 18446744073709551616 = ((i + k : Nat) : Int) := by rw [bm (by omega) (by omega)]; rfl
        have hik2 : i + k < 8 := by omega
        have hik3 : (i : Int) + k < 8 := by omega
        have hik4 : (0 : Int) ≤ (i : Int) + k := by omega
        have hik5 : ((i : Int) + k).toNat = i + k := by omega
        have hik6 : (i : Int) + k ≤ 7 := by omega
        have hik7 : i + k ≤ 7 := by omega
        have hn := wn_bd (um a) (um b) i k
        have hc := wpcar_bd (um a) (um b) i k
        unfold mwSt2
        repeat' (first | refine GW_seq ?_ | simp only [List.length_cons, List.length_nil, Nat.reduceAdd, Nat.reduceMul, wN] | ((first | refine GW_region' [] (by kernel_rfl) ?_ | refine GW_draw' [] follows (by kernel_rfl) (by kernel_rfl) ?_); intro Q hQ hP; simp [hC, hY, hi, hi', hz, hk, hk', hkz, hik, hik2, hik3, hik4, hik5, hik6, hik7, hs2, fa_get, fa_set, wi_ge, wi_lt, hn.1, hn.2.1, hn.2.2, hc.1]; (first | refine hQ _ _ _ _ ?_ | refine hQ _ _ _ _ (by kernel_rfl) ?_ | refine hP _ _ (fun _ => ?_) | refine hP _ _ (by kernel_rfl) (fun _ => ?_)); clear hQ hP Q) | refine GW_block ?_ | refine GW_ret ?_ | refine GW_skip ?_ | refine GW_exit ?_ | refine GW_goto ?_ | refine GW_label ?_ | simp only [blockG_exit] | (refine GW_cond (by simp; rfl) ?_ ?_ <;> (intro hb; first | (exfalso; exact absurd hb (by decide)) | skip)))
        refine weakL _ 600 hC G0F (m0 := []) hC0 (by omega) ?_ ?_ ?_
        · simp [dom, hs2, wdivS]
        · have e : fa 8 .u64 (upd (wpout (um a) (um b) i k) (i + k) (wi (wprow (um a) (um b) (i + 1)) (i + k))) = fa 8 .u64 (wpout (um a) (um b) i (k + 1)) := fa_congr fun j _ => wpout_step (um a) (um b) i k j
          simp [fa_ids, wmodS, e]
        · simp
      · have hi8 : Int.bmod ((i : Int) + 4) 18446744073709551616 = (i : Int) + 4 := bm (by omega) (by omega)
        have hi9 : (0 : Int) ≤ (i : Int) + 4 := by omega
        have hi10 : ((i : Int) + 4).toNat = i + 4 := by omega
        have hi11 : (i : Int) + 4 < 8 := by omega
        have hi12 : (i : Int) ≤ 3 := by omega
        have hi14 : i ≤ 3 := by omega
        have hi13 : i + 4 < 8 := by omega
        unfold mwSt2
        repeat' (first | refine GW_seq ?_ | simp only [List.length_cons, List.length_nil, Nat.reduceAdd, Nat.reduceMul, wN] | ((first | refine GW_region' [] (by kernel_rfl) ?_ | refine GW_draw' [] follows (by kernel_rfl) (by kernel_rfl) ?_); intro Q hQ hP; simp [hC, hY, hi, hi', hz, hs, hi8, hi9, hi10, hi11, hi12, hi13, hi14, fa_set]; (first | refine hQ _ _ _ _ ?_ | refine hQ _ _ _ _ (by kernel_rfl) ?_ | refine hP _ _ (fun _ => ?_) | refine hP _ _ (by kernel_rfl) (fun _ => ?_)); clear hQ hP Q) | refine GW_block ?_ | refine GW_ret ?_ | refine GW_skip ?_ | refine GW_exit ?_ | refine GW_goto ?_ | refine GW_label ?_ | simp only [blockG_exit] | (refine GW_cond (by simp; rfl) ?_ ?_ <;> (intro hb; first | (exfalso; exact absurd hb (by decide)) | skip)))
        refine weakL _ 600 hC G0F (m0 := []) hC0 (by omega) ?_ ?_ ?_
        · simp [dom, hs]
        · have e : fa 8 .u64 (upd (wpout (um a) (um b) i 4) (i + 4) (wpcar (um a) (um b) i 4)) = fa 8 .u64 (wi (wprow (um a) (um b) (i + 1))) := fa_congr fun j _ => wpout_end (um a) (um b) i hB0 hB1 j
          simp [fa_ids, e]
        · simp
    · unfold mwSt
      rw [eD]
      by_cases hx : orW D = 0
      · have hov : ovD D = false := by rw [← hor]; simp [hx]
        unfold orW at hx
        by_cases hzz : sz D = 0
        · have hw := words_z D hzz
          repeat' (first | refine GW_seq ?_ | simp only [List.length_cons, List.length_nil, Nat.reduceAdd, Nat.reduceMul, wN] | ((first | refine GW_region' [] (by kernel_rfl) ?_ | refine GW_draw' [] follows (by kernel_rfl) (by kernel_rfl) ?_); intro Q hQ hP; simp [hC, hY, fa_8, fa_4, hx, hw]; (first | refine hQ _ _ _ _ ?_ | refine hQ _ _ _ _ (by kernel_rfl) ?_ | refine hP _ _ (fun _ => ?_) | refine hP _ _ (by kernel_rfl) (fun _ => ?_)); clear hQ hP Q) | refine GW_block ?_ | refine GW_ret ?_ | refine GW_skip ?_ | refine GW_exit ?_ | refine GW_goto ?_ | refine GW_label ?_ | simp only [blockG_exit] | (refine GW_cond (by simp; rfl) ?_ ?_ <;> (intro hb; first | (exfalso; exact absurd hb (by decide)) | skip)))
          refine ⟨.inr trivial, ?_⟩
          rw [ovD] at hov
          simp [Tryd.results72, hs2 hn, mulO, hx]
          have := sz_small D hbd.1 (by simpa using hov)
          simp at hov
          omega
        · have hw := words_ne D hzz
          repeat' (first | refine GW_seq ?_ | simp only [List.length_cons, List.length_nil, Nat.reduceAdd, Nat.reduceMul, wN] | ((first | refine GW_region' [] (by kernel_rfl) ?_ | refine GW_draw' [] follows (by kernel_rfl) (by kernel_rfl) ?_); intro Q hQ hP; simp [hC, hY, fa_8, fa_4, hx, hw]; (first | refine hQ _ _ _ _ ?_ | refine hQ _ _ _ _ (by kernel_rfl) ?_ | refine hP _ _ (fun _ => ?_) | refine hP _ _ (by kernel_rfl) (fun _ => ?_)); clear hQ hP Q) | refine GW_block ?_ | refine GW_ret ?_ | refine GW_skip ?_ | refine GW_exit ?_ | refine GW_goto ?_ | refine GW_label ?_ | simp only [blockG_exit] | (refine GW_cond (by simp; rfl) ?_ ?_ <;> (intro hb; first | (exfalso; exact absurd hb (by decide)) | skip)))
          refine ⟨.inr trivial, ?_⟩
          rw [ovD] at hov
          simp [Tryd.results72, hs2 hn, mulO, hx]
          rw [Bool.eq_iff_iff]
          simp [ng_sz]
          have h3 := sz_small D hbd.1 (by simpa using hov)
          have h4 := sz_negl D hbd.1 (by simpa using hov)
          simp at hov
          omega
      · have hov : ovD D = true := by rw [← hor]; simp [hx]
        unfold orW at hx
        have hx2 : (bitI .or .u64 (bitI .or .u64 (bitI .or .u64 (wi D 4) (wi D 5)) (wi D 6)) (wi D 7) == 0) = false := by simpa using hx
        have hx3 : (bitI .or .u64 (bitI .or .u64 (bitI .or .u64 (wi D 4) (wi D 5)) (wi D 6)) (wi D 7) != 0) = true := by simpa using hx
        repeat' (first | refine GW_seq ?_ | simp only [List.length_cons, List.length_nil, Nat.reduceAdd, Nat.reduceMul, wN] | ((first | refine GW_region' [] (by kernel_rfl) ?_ | refine GW_draw' [] follows (by kernel_rfl) (by kernel_rfl) ?_); intro Q hQ hP; simp [hC, hY, fa_8, fa_4, hx, hx2, hx3]; (first | refine hQ _ _ _ _ ?_ | refine hQ _ _ _ _ (by kernel_rfl) ?_ | refine hP _ _ (fun _ => ?_) | refine hP _ _ (by kernel_rfl) (fun _ => ?_)); clear hQ hP Q) | refine GW_block ?_ | refine GW_ret ?_ | refine GW_skip ?_ | refine GW_exit ?_ | refine GW_goto ?_ | refine GW_label ?_ | simp only [blockG_exit] | (refine GW_cond (by simp; rfl) ?_ ?_ <;> (intro hb; first | (exfalso; exact absurd hb (by decide)) | skip)))
        refine ⟨.inr trivial, ?_⟩
        rw [ovD] at hov
        simp [Tryd.results72, hs2 hn, mulO, hx]
        simp at hov
        omega
  · have hn : (ng a == ng b) = true := by rw [ha, hq]; rfl
    refine GW_for 4 (mwSt 408 false (um a) (um b)) ?_ ?_ ?_
    · have e1 := wum_p a ha
      have e2 := wum_p b hq
      refine weakL _ 600 hC G0F (m0 := []) hC0 (by omega) ?_ ?_ ?_
      · simp [dom, fa_4, e1]
      · simp [fa_ids, fa_4, fa_8, e1, e2, wprow, Int.emod_one, wi_zero]
      · simp
    · intro i hi
      have hi' : (i : Int) < 4 := by omega
      have hz : (0 : Int) ≤ i := by omega
      have hs : Int.bmod ((i : Int) + 1) 18446744073709551616 = ((i + 1 : Nat) : Int) := by rw [bm (by omega) (by omega)]; rfl
      unfold mwSt
      repeat' (first | refine GW_seq ?_ | simp only [List.length_cons, List.length_nil, Nat.reduceAdd, Nat.reduceMul, wN] | ((first | refine GW_region' [] (by kernel_rfl) ?_ | refine GW_draw' [] follows (by kernel_rfl) (by kernel_rfl) ?_); intro Q hQ hP; simp [hC, hY, hi, hi', hz, hs, fa_get]; (first | refine hQ _ _ _ _ ?_ | refine hQ _ _ _ _ (by kernel_rfl) ?_ | refine hP _ _ (fun _ => ?_) | refine hP _ _ (by kernel_rfl) (fun _ => ?_)); clear hQ hP Q) | refine GW_block ?_ | refine GW_ret ?_ | refine GW_skip ?_ | refine GW_exit ?_ | refine GW_goto ?_ | refine GW_label ?_ | simp only [blockG_exit] | (refine GW_cond (by simp; rfl) ?_ ?_ <;> (intro hb; first | (exfalso; exact absurd hb (by decide)) | skip)))
      refine GW_for 4 (mwSt2 408 false (um a) (um b) i) ?_ ?_ ?_
      · refine weakL _ 600 hC G0F (m0 := []) hC0 (by omega) ?_ ?_ ?_
        · simp [dom, wpcar_zero]
        · have e : fa 8 .u64 (wpout (um a) (um b) i 0) = fa 8 .u64 (wi (wprow (um a) (um b) i)) := fa_congr fun j _ => by unfold wpout; rw [if_neg (by omega)]
          simp [e, fa_ids]
        · simp
      · intro k hk
        have hk' : (k : Int) < 4 := by omega
        have hkz : (0 : Int) ≤ k := by omega
        have hs2 : Int.bmod ((k : Int) + 1) 18446744073709551616 = ((k + 1 : Nat) : Int) := by rw [bm (by omega) (by omega)]; rfl
        have hik : Int.bmod ((i : Int) + k) 18446744073709551616 = ((i + k : Nat) : Int) := by rw [bm (by omega) (by omega)]; rfl
        have hik2 : i + k < 8 := by omega
        have hik3 : (i : Int) + k < 8 := by omega
        have hik4 : (0 : Int) ≤ (i : Int) + k := by omega
        have hik5 : ((i : Int) + k).toNat = i + k := by omega
        have hik6 : (i : Int) + k ≤ 7 := by omega
        have hik7 : i + k ≤ 7 := by omega
        have hn := wn_bd (um a) (um b) i k
        have hc := wpcar_bd (um a) (um b) i k
        unfold mwSt2
        repeat' (first | refine GW_seq ?_ | simp only [List.length_cons, List.length_nil, Nat.reduceAdd, Nat.reduceMul, wN] | ((first | refine GW_region' [] (by kernel_rfl) ?_ | refine GW_draw' [] follows (by kernel_rfl) (by kernel_rfl) ?_); intro Q hQ hP; simp [hC, hY, hi, hi', hz, hk, hk', hkz, hik, hik2, hik3, hik4, hik5, hik6, hik7, hs2, fa_get, fa_set, wi_ge, wi_lt, hn.1, hn.2.1, hn.2.2, hc.1]; (first | refine hQ _ _ _ _ ?_ | refine hQ _ _ _ _ (by kernel_rfl) ?_ | refine hP _ _ (fun _ => ?_) | refine hP _ _ (by kernel_rfl) (fun _ => ?_)); clear hQ hP Q) | refine GW_block ?_ | refine GW_ret ?_ | refine GW_skip ?_ | refine GW_exit ?_ | refine GW_goto ?_ | refine GW_label ?_ | simp only [blockG_exit] | (refine GW_cond (by simp; rfl) ?_ ?_ <;> (intro hb; first | (exfalso; exact absurd hb (by decide)) | skip)))
        refine weakL _ 600 hC G0F (m0 := []) hC0 (by omega) ?_ ?_ ?_
        · simp [dom, hs2, wdivS]
        · have e : fa 8 .u64 (upd (wpout (um a) (um b) i k) (i + k) (wi (wprow (um a) (um b) (i + 1)) (i + k))) = fa 8 .u64 (wpout (um a) (um b) i (k + 1)) := fa_congr fun j _ => wpout_step (um a) (um b) i k j
          simp [fa_ids, wmodS, e]
        · simp
      · have hi8 : Int.bmod ((i : Int) + 4) 18446744073709551616 = (i : Int) + 4 := bm (by omega) (by omega)
        have hi9 : (0 : Int) ≤ (i : Int) + 4 := by omega
        have hi10 : ((i : Int) + 4).toNat = i + 4 := by omega
        have hi11 : (i : Int) + 4 < 8 := by omega
        have hi12 : (i : Int) ≤ 3 := by omega
        have hi14 : i ≤ 3 := by omega
        have hi13 : i + 4 < 8 := by omega
        unfold mwSt2
        repeat' (first | refine GW_seq ?_ | simp only [List.length_cons, List.length_nil, Nat.reduceAdd, Nat.reduceMul, wN] | ((first | refine GW_region' [] (by kernel_rfl) ?_ | refine GW_draw' [] follows (by kernel_rfl) (by kernel_rfl) ?_); intro Q hQ hP; simp [hC, hY, hi, hi', hz, hs, hi8, hi9, hi10, hi11, hi12, hi13, hi14, fa_set]; (first | refine hQ _ _ _ _ ?_ | refine hQ _ _ _ _ (by kernel_rfl) ?_ | refine hP _ _ (fun _ => ?_) | refine hP _ _ (by kernel_rfl) (fun _ => ?_)); clear hQ hP Q) | refine GW_block ?_ | refine GW_ret ?_ | refine GW_skip ?_ | refine GW_exit ?_ | refine GW_goto ?_ | refine GW_label ?_ | simp only [blockG_exit] | (refine GW_cond (by simp; rfl) ?_ ?_ <;> (intro hb; first | (exfalso; exact absurd hb (by decide)) | skip)))
        refine weakL _ 600 hC G0F (m0 := []) hC0 (by omega) ?_ ?_ ?_
        · simp [dom, hs]
        · have e : fa 8 .u64 (upd (wpout (um a) (um b) i 4) (i + 4) (wpcar (um a) (um b) i 4)) = fa 8 .u64 (wi (wprow (um a) (um b) (i + 1))) := fa_congr fun j _ => wpout_end (um a) (um b) i hB0 hB1 j
          simp [fa_ids, e]
        · simp
    · unfold mwSt
      rw [eD]
      by_cases hx : orW D = 0
      · have hov : ovD D = false := by rw [← hor]; simp [hx]
        unfold orW at hx
        repeat' (first | refine GW_seq ?_ | simp only [List.length_cons, List.length_nil, Nat.reduceAdd, Nat.reduceMul, wN] | ((first | refine GW_region' [] (by kernel_rfl) ?_ | refine GW_draw' [] follows (by kernel_rfl) (by kernel_rfl) ?_); intro Q hQ hP; simp [hC, hY, fa_8, fa_4, hx]; (first | refine hQ _ _ _ _ ?_ | refine hQ _ _ _ _ (by kernel_rfl) ?_ | refine hP _ _ (fun _ => ?_) | refine hP _ _ (by kernel_rfl) (fun _ => ?_)); clear hQ hP Q) | refine GW_block ?_ | refine GW_ret ?_ | refine GW_skip ?_ | refine GW_exit ?_ | refine GW_goto ?_ | refine GW_label ?_ | simp only [blockG_exit] | (refine GW_cond (by simp; rfl) ?_ ?_ <;> (intro hb; first | (exfalso; exact absurd hb (by decide)) | skip)))
        refine ⟨.inr trivial, ?_⟩
        rw [ovD] at hov
        simp [Tryd.results72, hs1 hn, mulO, hx]
        rw [Bool.eq_iff_iff]
        simp [ng_sz]
        have h3 := sz_small D hbd.1 (by simpa using hov)
        simp at hov
        omega
      · have hov : ovD D = true := by rw [← hor]; simp [hx]
        unfold orW at hx
        have hx2 : (bitI .or .u64 (bitI .or .u64 (bitI .or .u64 (wi D 4) (wi D 5)) (wi D 6)) (wi D 7) == 0) = false := by simpa using hx
        have hx3 : (bitI .or .u64 (bitI .or .u64 (bitI .or .u64 (wi D 4) (wi D 5)) (wi D 6)) (wi D 7) != 0) = true := by simpa using hx
        repeat' (first | refine GW_seq ?_ | simp only [List.length_cons, List.length_nil, Nat.reduceAdd, Nat.reduceMul, wN] | ((first | refine GW_region' [] (by kernel_rfl) ?_ | refine GW_draw' [] follows (by kernel_rfl) (by kernel_rfl) ?_); intro Q hQ hP; simp [hC, hY, fa_8, fa_4, hx, hx2, hx3]; (first | refine hQ _ _ _ _ ?_ | refine hQ _ _ _ _ (by kernel_rfl) ?_ | refine hP _ _ (fun _ => ?_) | refine hP _ _ (by kernel_rfl) (fun _ => ?_)); clear hQ hP Q) | refine GW_block ?_ | refine GW_ret ?_ | refine GW_skip ?_ | refine GW_exit ?_ | refine GW_goto ?_ | refine GW_label ?_ | simp only [blockG_exit] | (refine GW_cond (by simp; rfl) ?_ ?_ <;> (intro hb; first | (exfalso; exact absurd hb (by decide)) | skip)))
        refine ⟨.inr trivial, ?_⟩
        rw [ovD] at hov
        simp [Tryd.results72, hs1 hn, mulO, hx]
        simp at hov
        omega
@[simp] theorem wMul (a b : Int) (K : Value → Prop) : callK Tryd.prog G0 72 #[Value.agg #[.int .u64 (wi (a) 0), .int .u64 (wi (a) 1), .int .u64 (wi (a) 2), .int .u64 (wi (a) 3)], Value.agg #[.int .u64 (wi (b) 0), .int .u64 (wi (b) 1), .int .u64 (wi (b) 2), .int .u64 (wi (b) 3)]] K ↔ K (.tuple #[wd (sz a * sz b), .bool (mulO a b)]) := callK_iff G0W (by kernel_rfl) (wmul_ret a b)
end Go.Gy
namespace Go.Gy
set_option linter.unusedSimpArgs false
set_option linter.unusedVariables false
open Go Go.RowKit Go.Proofs

def erV (n : Int) : Value := .iface 29 (.int .i64 n)
@[simp] theorem erV_eq (n : Int) : erV n = .iface 29 (.int .i64 n) := rfl
def zB : Blk := ⟨#[.int .u64 0, .int .u64 0, .int .u64 0, .int .u64 0], .ty 48⟩
def eB (n : Int) : Blk := ⟨#[.int .i64 n], .ty 29⟩
theorem assert_ok (n : Int) (W : World) : (Instr.typeAssert (erV n) 20 29 true).run Tryd.prog W = .ok (.tuple #[.int .i64 n, .bool true]) W := by kernel_rfl
theorem assert_nil (W : World) : (Instr.typeAssert .nilIface 20 29 true).run Tryd.prog W = .ok (.tuple #[.int .i64 0, .bool false]) W := by kernel_rfl
theorem rep10 : Array.replicate 10 undef = #[undef, undef, undef, undef, undef, undef, undef, undef, undef, undef] := rfl
def capQ : Array Value := #[.pointer (some ⟨100000, 0, none⟩), .pointer (some ⟨100008, 0, none⟩)]
def hpQ (n : Int) : Hp := hpL G0 [(100000, zB), (100008, eB n)]
theorem hpQ_rst (n : Int) : rst (hpQ n) [100000, 100008] = hpQ n := hpL_rst G0F (by simp)
theorem hpQ_ids (n : Int) (k : Nat) (b : Blk) (D : Nat → Prop) (h : hpQ n k = some b) : b.ids D := by
  rcases hpL_mem h with h | h
  · simp at h
    rcases h with ⟨_, rfl⟩ | ⟨_, rfl⟩ <;> simp [zB, eB]
  · exact G0_closed _ _ _ h
theorem qrec (n : Int) : RecF Tryd.prog G0 93 capQ (hpQ 0) [100000, 100008] (erV n) [(100000, zB), (100008, eB n)] := by
  refine ⟨⟨_, Tryd.func93⟩, Tryd.call93, ?_, ?_⟩
  · refine back_of (k := 2) Tryd.func93 rfl fun args c₀ cs W hk hu => ?_
    obtain ⟨p0, p1, rfl⟩ : ∃ p0 p1, args = #[p0, p1] := by
      rcases args with ⟨l⟩
      match l, hk with
      | [a, b], _ => exact ⟨a, b, rfl⟩
    have hn : Tryd.f93.ntmps = 12 := Tryd.ntmps93
    refine wpSIn_seq (wpSIn_region ?_)
    simp [wpOpsSIn, List.range, List.range.loop, go_sem, recoverD, hu, hn, assert_nil, rep10]
    refine wpSIn_seq (wpSIn_region ?_)
    simp [wpOpsSIn, List.range, List.range.loop, go_sem]
    refine wpSIn_cond (t := false) (by simp [Act.eval]) ?_
    refine wpSIn_of_wpIn rfl (wpIn_skip ?_)
    exact ⟨.inl rfl, rfl, rfl, rfl, .tuple #[], by simp [results, Tryd.results93, go_sem]⟩
  · refine caught_of (B := 200000) (A := #[.pointer (some ⟨100000, 0, none⟩), .pointer (some ⟨100008, 0, none⟩), .int .i64 n, .bool true, .tuple #[.int .i64 n, .bool true], erV n, .tuple #[.int .i64 n, .bool true], .int .i64 n, .bool true, undef, undef, undef]) G0F (fun k hk => hpL_low (by simp) hk) Tryd.func93 rfl (by simp [Tryd.ntmps93]) ?_ ?_ ?_ ?_ ?_ ?_ (by omega) ?_ ?_
    · rw [hpQ_rst]; simp [hpQ, dom]; exact flatV_ids (by simp)
    · intro r c₀ cs W Q hu hQ
      have hrn : ∀ v, flatV v = true → ren r v = v := fun v hv => flatV_ren hv
      simp only [List.map_toArray, List.map_cons, List.map_nil, capQ] at hQ ⊢
      generalize ren r (.pointer (some ⟨100000, 0, none⟩)) = p0 at hQ ⊢
      generalize ren r (.pointer (some ⟨100008, 0, none⟩)) = p1 at hQ ⊢
      simp only [hrn (.int .i64 n) rfl, hrn (.bool true) rfl, hrn (erV n) rfl, hrn (.tuple #[.int .i64 n, .bool true]) (by simp), ren_undef] at hQ
      have hn : Tryd.f93.ntmps = 12 := Tryd.ntmps93
      have hA := assert_ok n
      simp only [erV_eq] at hA
      simp [wpOpsSIn, List.range, List.range.loop, go_sem, recoverD, hu, pand, erV, hn, hA, rep10]
      exact hQ
    · rw [hpQ_rst]; exact fun k b h => hpQ_ids 0 k b _ h
    · rw [hpQ_rst]; simp [hpQ, dom]
    · intro k b c h1 h2
      simp at h1 h2
      rcases h1 with ⟨rfl, rfl⟩ | ⟨rfl, rfl⟩ <;> rcases h2 with ⟨e2, rfl⟩ | ⟨e2, rfl⟩ <;> first | rfl | omega
    · simp [zB, eB]
    · rw [hpQ_rst]; exact fun x hx => by simp [hpQ, show ¬ x = 100000 by omega, show ¬ x = 100008 by omega, show 100 ≤ x by omega]
    · intro C hC hC0 hY
      rw [hpQ_rst]
      repeat' (first | refine GW_seq ?_ | simp only [List.length_cons, List.length_nil, Nat.reduceAdd, Nat.reduceMul, wN] | ((first | refine GW_region' [] (by kernel_rfl) ?_ | refine GW_draw' [] follows (by kernel_rfl) (by kernel_rfl) ?_); intro Q hQ hP; simp [hC, hY, hpQ, zB, eB]; (first | refine hQ _ _ _ _ ?_ | refine hQ _ _ _ _ (by kernel_rfl) ?_ | refine hP _ _ (fun _ => ?_) | refine hP _ _ (by kernel_rfl) (fun _ => ?_)); clear hQ hP Q) | refine GW_block ?_ | refine GW_ret ?_ | refine GW_skip ?_ | refine GW_exit ?_ | refine GW_goto ?_ | refine GW_label ?_ | simp only [blockG_exit] | (refine GW_cond (by simp; rfl) ?_ ?_ <;> (intro hb; first | (exfalso; exact absurd hb (by decide)) | skip)))
      refine ⟨.inl trivial, by simp [Tryd.results93], fun k hk => ?_⟩
      simp [zB, eB, hpQ]
/-- What 'told' comes to, by what the closure comes to. -/
theorem qtold_ret {g : FuncId} {capv : List Value} {hp : Hp} {rs : List Nat} {x0 x1 x2 x3 : Int} {ws : List (Nat × Blk)} (hG : ∀ k, k < 100 → hp k = G0 k) (hrs : ∀ k ∈ rs, k < 100000) (hc : capv.isEmpty = false) (hpl : capv.all plain0 = true)
    (h : Fun Tryd.prog G0 g capv.toArray hp rs (.ret (.agg #[.int .u64 x0, .int .u64 x1, .int .u64 x2, .int .u64 x3]) ws)) :
    Fun Tryd.prog G0 68 #[.func (.func g) #[] capv.toArray] hp rs (.ret (.tuple #[.agg #[.int .u64 x0, .int .u64 x1, .int .u64 x2, .int .u64 x3], .int .i64 0]) ws) := by
  have hids : ∀ x ∈ capv, ids0 (dom (rst hp rs)) x := fun x hx => (ids_plain0 (List.all_eq_true.1 hpl x hx)).1 (h.ids x (by simpa using hx))
  have hbig : ∀ x, 100000 ≤ x → rst hp rs x = none := fun x hx => by
    unfold rst; rw [if_neg]; rintro (h1 | h1)
    · omega
    · have := hrs x h1; omega
  refine fun_rec (out := .ret (.tuple #[.agg #[.int .u64 x0, .int .u64 x1, .int .u64 x2, .int .u64 x3], .int .i64 0]) ws) (B := 100000) (B1 := 100016) (id := 1) (t := 4) (ts1 := upd (upd (fun t => [Value.func (.func g) #[] capv.toArray][t]?.getD undef) 2 (gptr 100000)) 3 (gptr 100008))
    (hp1 := upd (upd (rst hp rs) 100000 (some zB)) 100008 (some (eB 0))) capQ G0F hG Tryd.func68 rfl (by simp [Tryd.ntmps68]) Tryd.call68 ⟨_, _, _, _, qrec 0⟩ ?_ h.closed ?_ (by simp [Tryd.ntmps68]) (by omega) hbig ?_ ?_ ?_ ?_ ?_ ?_
  · simpa using hids
  · exact ⟨flatV_ids (by simp), h.fits.2⟩
  · intro C hC hC0 hY
    repeat' (first | refine GW_seq ?_ | simp only [List.length_cons, List.length_nil, Nat.reduceAdd, Nat.reduceMul, wN] | ((first | refine GW_region' [] (by kernel_rfl) ?_ | refine GW_draw' [] follows (by kernel_rfl) (by kernel_rfl) ?_); intro Q hQ hP; simp [hC, hY]; (first | refine hQ _ _ _ _ ?_ | refine hQ _ _ _ _ (by kernel_rfl) ?_ | refine hP _ _ (fun _ => ?_) | refine hP _ _ (by kernel_rfl) (fun _ => ?_)); clear hQ hP Q) | refine GW_block ?_ | refine GW_ret ?_ | refine GW_skip ?_ | refine GW_exit ?_ | refine GW_goto ?_ | refine GW_label ?_ | simp only [blockG_exit] | (refine GW_cond (by simp; rfl) ?_ ?_ <;> (intro hb; first | (exfalso; exact absurd hb (by decide)) | skip)))
    exact ⟨trivial, rfl⟩
  · intro k hk
    have h1 : ¬ k = 100000 := fun e => hk (hbig k (by omega))
    have h2 : ¬ k = 100008 := fun e => hk (hbig k (by omega))
    simp [h1, h2]
  · simp [okT, capQ]
  · simp [capQ]
  · simp [capQ]
  · intro C d hC hC0 hY
    refine GW_seq ?_
    refine GW_region' [] (by kernel_rfl) ?_; intro Q hQ hP; simp [hC, hY, hc, hpl]
    have hk1 : ∀ k ∈ keys ws, k < 100000 := fun k hk => hrs k (h.fits.2.1 k hk).1
    have hk2 : (100000 : Nat) ∉ keys ws := fun hm => by have := hk1 _ hm; omega
    have hk3 : (100008 : Nat) ∉ keys ws := fun hm => by have := hk1 _ hm; omega
    have w1 : updL (upd (upd (rst hp rs) 100000 (some zB)) 100008 (some (eB 0))) ws 100000 = some zB := by
      rw [updL_other hk2]; simp
    have w2 : updL (upd (upd (rst hp rs) 100000 (some zB)) 100008 (some (eB 0))) ws 100008 = some (eB 0) := by
      rw [updL_other hk3]; simp
    refine heapK_of (hp' := hp) h (fun k hk => ?_) hG trivial ?_
    · have := hrs k hk
      simp [rst, hk, show ¬ k = 100000 by omega, show ¬ k = 100008 by omega]
    simp only [zB, eB] at w1 w2
    simp [w1, w2, zB, eB]
    refine hQ _ _ _ _ ?_
    repeat' (first | refine GW_seq ?_ | simp only [List.length_cons, List.length_nil, Nat.reduceAdd, Nat.reduceMul, wN] | ((first | refine GW_region' [] (by kernel_rfl) ?_ | refine GW_draw' [] follows (by kernel_rfl) (by kernel_rfl) ?_); intro Q hQ hP; simp [hC, hY, w1, w2, zB, eB]; (first | refine hQ _ _ _ _ ?_ | refine hQ _ _ _ _ (by kernel_rfl) ?_ | refine hP _ _ (fun _ => ?_) | refine hP _ _ (by kernel_rfl) (fun _ => ?_)); clear hQ hP Q) | refine GW_block ?_ | refine GW_ret ?_ | refine GW_skip ?_ | refine GW_exit ?_ | refine GW_goto ?_ | refine GW_label ?_ | simp only [blockG_exit] | (refine GW_cond (by simp; rfl) ?_ ?_ <;> (intro hb; first | (exfalso; exact absurd hb (by decide)) | skip)))
    refine ⟨.inr rfl, by simp [Tryd.results68], fun k hk => ?_⟩
    have h1 : ¬ k = 100000 := fun e => hk (hbig k (by omega))
    have h2 : ¬ k = 100008 := fun e => hk (hbig k (by omega))
    rw [updL_comm_upd hk3, updL_comm_upd hk2]
    simp [h1, h2]
end Go.Gy
namespace Go.Gy
set_option linter.unusedSimpArgs false
set_option linter.unusedVariables false
open Go Go.RowKit Go.Proofs

/-- How many bits a number has. -/
def nbits (x : Int) : Int := if x ≤ 0 then 0 else (Nat.log2 x.toNat : Int) + 1
theorem nbits_pos {x : Int} (h : 0 < x) : ∃ k : Nat, nbits x = k + 1 ∧ 2 ^ k ≤ x ∧ x < 2 ^ (k + 1) := by
  refine ⟨Nat.log2 x.toNat, by unfold nbits; rw [if_neg (by omega)], ?_, ?_⟩
  · have := Nat.log2_self_le (n := x.toNat) (by omega)
    have h2 : ((2 ^ Nat.log2 x.toNat : Nat) : Int) ≤ (x.toNat : Int) := by exact_mod_cast this
    rw [Int.toNat_of_nonneg (by omega)] at h2
    exact_mod_cast h2
  · have := Nat.lt_log2_self (n := x.toNat)
    have h2 : (x.toNat : Int) < ((2 ^ (Nat.log2 x.toNat + 1) : Nat) : Int) := by exact_mod_cast this
    rw [Int.toNat_of_nonneg (by omega)] at h2
    exact_mod_cast h2
theorem nbits_is {x : Int} {k : Nat} (h1 : 2 ^ k ≤ x) (h2 : x < 2 ^ (k + 1)) : nbits x = k + 1 := by
  have hp : (0 : Int) < 2 ^ k := Int.pow_pos (by omega)
  unfold nbits
  rw [if_neg (by omega)]
  have : Nat.log2 x.toNat = k := (Nat.log2_eq_iff (by omega)).2 ⟨by
    have : ((2 ^ k : Nat) : Int) ≤ (x.toNat : Int) := by rw [Int.toNat_of_nonneg (by omega)]; exact_mod_cast h1
    exact_mod_cast this, by
    have : (x.toNat : Int) < ((2 ^ (k + 1) : Nat) : Int) := by rw [Int.toNat_of_nonneg (by omega)]; exact_mod_cast h2
    exact_mod_cast this⟩
  rw [this]
theorem nbits_div {x : Int} (j : Nat) (h : 2 ^ j ≤ x) : nbits x = j + nbits (x / 2 ^ j) := by
  have hp : (0 : Int) < 2 ^ j := Int.pow_pos (by omega)
  have h1 : 0 < x / 2 ^ j := by
    have := (Int.le_ediv_iff_mul_le hp (a := 1) (b := x)).2 (by omega); omega
  obtain ⟨k, e, l1, l2⟩ := nbits_pos h1
  rw [e]
  have := nbits_is (x := x) (k := j + k) (by
    have := (Int.le_ediv_iff_mul_le hp).1 l1
    rw [Int.pow_add, Int.mul_comm]; exact this) (by
    have := (Int.ediv_lt_iff_lt_mul hp).1 l2
    rw [Nat.add_assoc, Int.pow_add, Int.mul_comm]; exact this)
  rw [this]; omega
theorem idvS_tab {s : ByteArray} {m : Int} {C : Eff → Prop} (h0 : 0 ≤ m) (h1 : m < 256) (ht : ∀ k : Fin 256, (s[k.1]?).map (fun b => b.toNat) = some (if k.1 = 0 then 0 else Nat.log2 k.1 + 1)) (h : C (val (.int .u8 (nbits m)) [])) : idvS s m C := by
  have h2 := ht ⟨m.toNat, by omega⟩
  cases hb : s[m.toNat]? with
  | none => simp [hb] at h2
  | some b =>
    simp only [hb, Option.map_some, Option.some.injEq] at h2
    rw [idvS_at h0 hb, h2]
    have : ((if m.toNat = 0 then 0 else Nat.log2 m.toNat + 1 : Nat) : Int) = nbits m := by
      unfold nbits
      by_cases e : m ≤ 0
      · rw [if_pos e, if_pos (by omega)]; rfl
      · rw [if_neg e, if_neg (by omega)]; rfl
    exact this ▸ h
theorem nbits_lt {x : Int} (h : x < 256) : 0 ≤ nbits x ∧ nbits x ≤ 8 := by
  by_cases h0 : 0 < x
  · obtain ⟨k, e, l1, l2⟩ := nbits_pos h0
    rw [e]
    have : k < 8 := Classical.byContradiction fun hk => by
      have : (2 : Int) ^ 8 ≤ 2 ^ k := by exact_mod_cast Nat.pow_le_pow_right (by omega) (by omega : 8 ≤ k)
      omega
    omega
  · unfold nbits; rw [if_pos (by omega)]; omega
set_option maxHeartbeats 1000000 in
theorem len64_ret (x : Int) (h0 : 0 ≤ x) (h1 : x < 18446744073709551616) : Ret Tryd.prog G0 153 #[.int .u64 x] (.int .i64 (nbits x)) := by
  refine ret_of G0F Tryd.func153 rfl Tryd.call153 rfl (by simp) (by simp [Tryd.ntmps153]) ?_
  intro C hC hC0 hY
  have f32 : ∀ z : Int, z.fdiv 4294967296 = z / 4294967296 := fun z => Int.fdiv_eq_ediv_of_nonneg z (by omega)
  have f16 : ∀ z : Int, z.fdiv 65536 = z / 65536 := fun z => Int.fdiv_eq_ediv_of_nonneg z (by omega)
  have f8 : ∀ z : Int, z.fdiv 256 = z / 256 := fun z => Int.fdiv_eq_ediv_of_nonneg z (by omega)
  have n32 : 4294967296 ≤ x → nbits x = 32 + nbits (x / 4294967296) := nbits_div 32
  have n16 : ∀ y : Int, 65536 ≤ y → nbits y = 16 + nbits (y / 65536) := fun y => nbits_div 16
  have n8 : ∀ y : Int, 256 ≤ y → nbits y = 8 + nbits (y / 256) := fun y => nbits_div 8
  repeat' (first | refine GW_seq ?_ | simp only [List.length_cons, List.length_nil, Nat.reduceAdd, Nat.reduceMul, wN] | ((first | refine GW_region' [] (by kernel_rfl) ?_ | refine GW_draw' [] follows (by kernel_rfl) (by kernel_rfl) ?_); intro Q hQ hP; simp [hC, hY, f32, f16, f8]; (first | refine hQ _ _ _ _ ?_ | refine hQ _ _ _ _ (by kernel_rfl) ?_ | refine hP _ _ (fun _ => ?_) | refine hP _ _ (by kernel_rfl) (fun _ => ?_)); clear hQ hP Q) | refine GW_block ?_ | refine GW_ret ?_ | refine GW_skip ?_ | refine GW_exit ?_ | refine GW_goto ?_ | refine GW_label ?_ | simp only [blockG_exit] | (refine GW_cond (by simp; rfl) ?_ ?_ <;> (intro hb; first | (exfalso; exact absurd hb (by decide)) | skip)))
  all_goals
    rename_i c1 c2
    simp at c1 c2 hb
    refine GW_region' [] (by kernel_rfl) ?_; intro Q hQ hP; simp [hC, hY]
    refine idvS_tab (by omega) (by omega) (by decide +kernel) ?_
    simp
    refine hQ _ _ _ _ ?_
    repeat' (first | refine GW_seq ?_ | simp only [List.length_cons, List.length_nil, Nat.reduceAdd, Nat.reduceMul, wN] | ((first | refine GW_region' [] (by kernel_rfl) ?_ | refine GW_draw' [] follows (by kernel_rfl) (by kernel_rfl) ?_); intro Q hQ hP; simp [hC, hY]; (first | refine hQ _ _ _ _ ?_ | refine hQ _ _ _ _ (by kernel_rfl) ?_ | refine hP _ _ (fun _ => ?_) | refine hP _ _ (by kernel_rfl) (fun _ => ?_)); clear hQ hP Q) | refine GW_block ?_ | refine GW_ret ?_ | refine GW_skip ?_ | refine GW_exit ?_ | refine GW_goto ?_ | refine GW_label ?_ | simp only [blockG_exit] | (refine GW_cond (by simp; rfl) ?_ ?_ <;> (intro hb; first | (exfalso; exact absurd hb (by decide)) | skip)))
    refine ⟨.inr trivial, ?_⟩
    simp [Tryd.results153]
    rw [Int.emod_eq_of_lt (by omega) (by omega)]
    have k2 := n16 x
    have k3 := n16 (x / 4294967296)
    have k4 := n8 x
    have k5 := n8 (x / 4294967296)
    have k6 := n8 (x / 65536)
    have k7 := n8 (x / 4294967296 / 65536)
    have b1 := nbits_lt (x := x)
    have b2 := nbits_lt (x := x / 256)
    have b3 := nbits_lt (x := x / 65536)
    have b4 := nbits_lt (x := x / 65536 / 256)
    have b5 := nbits_lt (x := x / 4294967296)
    have b6 := nbits_lt (x := x / 4294967296 / 256)
    have b7 := nbits_lt (x := x / 4294967296 / 65536)
    have b8 := nbits_lt (x := x / 4294967296 / 65536 / 256)
    rw [bm (by omega) (by omega)]
    try omega
@[simp] theorem len64 (x : Int) (h0 : 0 ≤ x) (h1 : x < 18446744073709551616) (K : Value → Prop) : callK Tryd.prog G0 153 #[.int .u64 x] K ↔ K (.int .i64 (nbits x)) := callK_iff G0W (by kernel_rfl) (len64_ret x h0 h1)
/-- A number as it is without a sign. -/
def uz (z : Int) : Int := z % 115792089237316195423570985008687907853269984665640564039457584007913129639936
theorem nbits_bd {x : Int} (j : Nat) (h : x < 2 ^ j) : 0 ≤ nbits x ∧ nbits x ≤ j := by
  by_cases h0 : 0 < x
  · obtain ⟨k, e, l1, l2⟩ := nbits_pos h0
    rw [e]
    have : k < j := Classical.byContradiction fun hk => by
      have : (2 : Int) ^ j ≤ 2 ^ k := by exact_mod_cast Nat.pow_le_pow_right (by omega) (by omega : j ≤ k)
      omega
    omega
  · unfold nbits; rw [if_pos (by omega)]; omega
theorem nb_word (z : Int) (k : Nat) : 0 ≤ nbits (wi z k) ∧ nbits (wi z k) ≤ 64 := nbits_bd 64 (by have := wi_lt z k; omega)
theorem size_3 (z : Int) (h : ¬ wi z 3 = 0) : nbits (uz z) = 192 + nbits (wi z 3) := by
  have h0 := wi_ge z 3
  have e : uz z / 2 ^ 192 = wi z 3 := by unfold uz wi; omega
  have := nbits_div (x := uz z) 192 (by unfold wi at h h0; unfold uz; omega)
  rw [this, e]; rfl
theorem size_2 (z : Int) (h3 : wi z 3 = 0) (h : ¬ wi z 2 = 0) : nbits (uz z) = 128 + nbits (wi z 2) := by
  have h0 := wi_ge z 2
  have e : uz z / 2 ^ 128 = wi z 2 := by unfold wi at h3; unfold uz wi; omega
  have := nbits_div (x := uz z) 128 (by unfold wi at h h0; unfold uz; omega)
  rw [this, e]; rfl
theorem size_1 (z : Int) (h3 : wi z 3 = 0) (h2 : wi z 2 = 0) (h : ¬ wi z 1 = 0) : nbits (uz z) = 64 + nbits (wi z 1) := by
  have h0 := wi_ge z 1
  have e : uz z / 2 ^ 64 = wi z 1 := by unfold wi at h3 h2; unfold uz wi; omega
  have := nbits_div (x := uz z) 64 (by unfold wi at h h0; unfold uz; omega)
  rw [this, e]; rfl
theorem size_0 (z : Int) (h3 : wi z 3 = 0) (h2 : wi z 2 = 0) (h1 : wi z 1 = 0) : uz z = wi z 0 := by
  unfold wi at h3 h2 h1; unfold uz wi; omega
end Go.Gy
namespace Go.Gy
set_option linter.unusedSimpArgs false
set_option linter.unusedVariables false
open Go Go.RowKit Go.Proofs
theorem must_t (n : Int) : RetP Tryd.prog G0 74 #[.bool true, .int .i64 n] (.ret (.tuple #[])) := by
  refine retp_of G0F Tryd.func74 rfl Tryd.call74 (fun v h => by cases h; simp) (by simp) (by simp [Tryd.ntmps74]) ?_
  intro C hC hC0 hY
  repeat' (first | refine GW_seq ?_ | simp only [List.length_cons, List.length_nil, Nat.reduceAdd, Nat.reduceMul, wN] | ((first | refine GW_region' [] (by kernel_rfl) ?_ | refine GW_draw' [] follows (by kernel_rfl) (by kernel_rfl) ?_); intro Q hQ hP; simp [hC, hY]; (first | refine hQ _ _ _ _ ?_ | refine hQ _ _ _ _ (by kernel_rfl) ?_ | refine hP _ _ (fun _ => ?_) | refine hP _ _ (by kernel_rfl) (fun _ => ?_)); clear hQ hP Q) | refine GW_block ?_ | refine GW_ret ?_ | refine GW_skip ?_ | refine GW_exit ?_ | refine GW_goto ?_ | refine GW_label ?_ | simp only [blockG_exit] | (refine GW_cond (by simp; rfl) ?_ ?_ <;> (intro hb; first | (exfalso; exact absurd hb (by decide)) | skip)))
  exact ⟨.inl trivial, by simp [Tryd.results74]⟩
theorem must_f (n : Int) : RetP Tryd.prog G0 74 #[.bool false, .int .i64 n] (.pan (erV n)) := by
  refine retp_of G0F Tryd.func74 rfl Tryd.call74 (fun v h => by cases h) (by simp) (by simp [Tryd.ntmps74]) ?_
  intro C hC hC0 hY
  repeat' (first | refine GW_seq ?_ | simp only [List.length_cons, List.length_nil, Nat.reduceAdd, Nat.reduceMul, wN] | ((first | refine GW_region' [] (by kernel_rfl) ?_ | refine GW_draw' [] follows (by kernel_rfl) (by kernel_rfl) ?_); intro Q hQ hP; simp [hC, hY]; (first | refine hQ _ _ _ _ ?_ | refine hQ _ _ _ _ (by kernel_rfl) ?_ | refine hP _ _ (fun _ => ?_) | refine hP _ _ (by kernel_rfl) (fun _ => ?_)); clear hQ hP Q) | refine GW_block ?_ | refine GW_ret ?_ | refine GW_skip ?_ | refine GW_exit ?_ | refine GW_goto ?_ | refine GW_label ?_ | simp only [blockG_exit] | (refine GW_cond (by simp; rfl) ?_ ?_ <;> (intro hb; first | (exfalso; exact absurd hb (by decide)) | skip)))
  rfl
theorem sure_f (z : Int) : RetP Tryd.prog G0 71 #[wd z, .bool false] (.ret (wd z)) := by
  refine retp_of G0F Tryd.func71 rfl Tryd.call71 (fun v h => by cases h; simp) (by simp) (by simp [Tryd.ntmps71]) ?_
  intro C hC hC0 hY
  repeat' (first | refine GW_seq ?_ | simp only [List.length_cons, List.length_nil, Nat.reduceAdd, Nat.reduceMul, wN] | ((first | refine GW_region' [1000074] (by kernel_rfl) ?_ | refine GW_draw' [1000074] follows (by kernel_rfl) (by kernel_rfl) ?_); intro Q hQ hP; simp [hC, hY]; (repeat ((first | (refine callP_of (must_t 20) ?_)); try simp [hC, hY])); (first | refine hQ _ _ _ _ ?_ | refine hQ _ _ _ _ (by kernel_rfl) ?_ | refine hP _ _ (fun _ => ?_) | refine hP _ _ (by kernel_rfl) (fun _ => ?_)); clear hQ hP Q) | refine GW_block ?_ | refine GW_ret ?_ | refine GW_skip ?_ | refine GW_exit ?_ | refine GW_goto ?_ | refine GW_label ?_ | simp only [blockG_exit] | (refine GW_cond (by simp; rfl) ?_ ?_ <;> (intro hb; first | (exfalso; exact absurd hb (by decide)) | skip)))
  exact ⟨.inr trivial, by simp [Tryd.results71]⟩
theorem size_ret (z : Int) : Ret Tryd.prog G0 150 #[wd z] (.int .i64 (nbits (uz z))) := by
  refine ret_of G0F Tryd.func150 rfl Tryd.call150 rfl (by simp) (by simp [Tryd.ntmps150]) ?_
  intro C hC hC0 hY
  have b0 := nb_word z 0
  have b1 := nb_word z 1
  have b2 := nb_word z 2
  have b3 := nb_word z 3
  have k3 := size_3 z
  have k2 := size_2 z
  have k1 := size_1 z
  have k0 := size_0 z
  have m3 : Int.bmod (192 + nbits (wi z 3)) 18446744073709551616 = 192 + nbits (wi z 3) := bm (by omega) (by omega)
  have m2 : Int.bmod (128 + nbits (wi z 2)) 18446744073709551616 = 128 + nbits (wi z 2) := bm (by omega) (by omega)
  have m1 : Int.bmod (64 + nbits (wi z 1)) 18446744073709551616 = 64 + nbits (wi z 1) := bm (by omega) (by omega)
  repeat' (first | refine GW_seq ?_ | refine GWL_start ?_ | refine GWL_step ?_ | simp only [List.length_cons, List.length_nil, Nat.reduceAdd, Nat.reduceMul, wN] | ((first | refine GW_region' [] (by kernel_rfl) ?_ | refine GW_draw' [] follows (by kernel_rfl) (by kernel_rfl) ?_); intro Q hQ hP; simp [hC, hY, wi_ge, wi_lt, m1, m2, m3]; (first | refine hQ _ _ _ _ ?_ | refine hQ _ _ _ _ (by kernel_rfl) ?_ | refine hP _ _ (fun _ => ?_) | refine hP _ _ (by kernel_rfl) (fun _ => ?_)); clear hQ hP Q) | refine GW_block ?_ | refine GW_ret ?_ | refine GW_skip ?_ | refine GW_exit ?_ | refine GW_goto ?_ | refine GW_label ?_ | simp only [blockG_exit] | (refine GW_cond (by simp; rfl) ?_ ?_ <;> (intro hb; first | (exfalso; exact absurd hb (by decide)) | skip)))
  all_goals
    refine ⟨.inr trivial, ?_⟩
    simp [Tryd.results150]
    simp_all
@[simp] theorem qsize (z : Int) (K : Value → Prop) : callK Tryd.prog G0 150 #[Value.agg #[.int .u64 (wi (z) 0), .int .u64 (wi (z) 1), .int .u64 (wi (z) 2), .int .u64 (wi (z) 3)]] K ↔ K (.int .i64 (nbits (uz z))) := callK_iff G0W (by kernel_rfl) (size_ret z)
end Go.Gy
namespace Go.Gy
set_option linter.unusedSimpArgs false
set_option linter.unusedVariables false
open Go Go.RowKit Go.Proofs

theorem emm (a p m : Int) : a % m * p % m = a * p % m := by rw [Int.mul_emod, Int.emod_emod_of_dvd _ (Int.dvd_refl _), ← Int.mul_emod]
theorem or_add {x y : Int} {R : Nat} (hx0 : 0 ≤ x) (hx : x < 18446744073709551616) (hd : x % 2 ^ R = 0) (hy0 : 0 ≤ y) (hy : y < 2 ^ R) (hR : R ≤ 64) : bitI .or .u64 x y = x + y := by
  have hp : (2 : Int) ^ R ≤ 2 ^ 64 := by exact_mod_cast Nat.pow_le_pow_right (by omega) (by omega : R ≤ 64)
  have e : bitI .or .u64 x y = ((BitVec.ofInt 64 x ||| BitVec.ofInt 64 y : BitVec 64).toNat : Int) % 18446744073709551616 := by
    unfold bitI
    show IntKind.u64.wrap ((BitVec.ofInt 64 x ||| BitVec.ofInt 64 y : BitVec 64).toNat : Int) = _
    rw [wrap_u64]
  have hx' : (BitVec.ofInt 64 x).toNat = x.toNat := by
    rw [BitVec.toNat_ofInt]; congr 1; exact Int.emod_eq_of_lt hx0 hx
  have hy' : (BitVec.ofInt 64 y).toNat = y.toNat := by
    rw [BitVec.toNat_ofInt]; congr 1; exact Int.emod_eq_of_lt hy0 (by omega)
  obtain ⟨X, rfl⟩ := Int.eq_ofNat_of_zero_le hx0
  obtain ⟨Y, rfl⟩ := Int.eq_ofNat_of_zero_le hy0
  have hd' : X % 2 ^ R = 0 := by exact_mod_cast hd
  have hY : Y < 2 ^ R := by exact_mod_cast hy
  have hX : X = (X / 2 ^ R) <<< R := by rw [Nat.shiftLeft_eq]; exact (Nat.div_mul_cancel (Nat.dvd_of_mod_eq_zero hd')).symm
  have hor : X ||| Y = X + Y := by
    rw [hX]; exact (Nat.shiftLeft_add_eq_or_of_lt hY _).symm
  have hp' : 2 ^ R ≤ 2 ^ 64 := Nat.pow_le_pow_right (by omega) (by omega : R ≤ 64)
  have hb : X + Y < 18446744073709551616 := by
    rw [← hor]; exact Nat.or_lt_two_pow (n := 64) (by omega) (by omega)
  rw [e, BitVec.toNat_or, hx', hy']
  simp only [Int.toNat_natCast, hor]
  omega
theorem two_split {R : Nat} (hR : R < 64) : (2 : Int) ^ R * 2 ^ (64 - R) = 18446744073709551616 := by
  rw [← Int.pow_add, show R + (64 - R) = 64 by omega]; rfl
theorem wi_shl0 (z : Int) (R : Nat) : wi (z * 2 ^ R) 0 = (wi z 0 * 2 ^ R) % 18446744073709551616 := by
  simp only [wi, Nat.mul_zero, Int.pow_zero, Int.ediv_one]
  rw [emm]
theorem wi_shlS (z : Int) (R : Nat) (hR : R < 64) (k : Nat) : wi (z * 2 ^ R) (k + 1) = (wi z (k + 1) * 2 ^ R) % 18446744073709551616 + wi z k / 2 ^ (64 - R) ∧ 0 ≤ wi z k / 2 ^ (64 - R) ∧ wi z k / 2 ^ (64 - R) < 2 ^ R ∧ (wi z (k + 1) * 2 ^ R) % 18446744073709551616 % 2 ^ R = 0 := by
  have hM := two_split hR
  have hPp : (0 : Int) < 2 ^ R := Int.pow_pos (by omega)
  have hSp : (0 : Int) < 2 ^ (64 - R) := Int.pow_pos (by omega)
  have e1 : (2 : Int) ^ (64 * (k + 1)) = 2 ^ (64 * k) * 18446744073709551616 := by
    rw [show 64 * (k + 1) = 64 * k + 64 by omega, Int.pow_add]; rfl
  have hKp : (0 : Int) < 2 ^ (64 * k) := Int.pow_pos (by omega)
  unfold wi
  rw [e1]
  generalize (2 : Int) ^ R = P at *
  generalize (2 : Int) ^ (64 - R) = S at *
  generalize (2 : Int) ^ (64 * k) = K at *
  have eu : z * P / (K * 18446744073709551616) = z / K / S := by
    rw [← hM, show K * (P * S) = (K * S) * P by rw [Int.mul_comm P S, Int.mul_assoc], Int.mul_ediv_mul_of_pos_left _ _ hPp, Int.ediv_ediv_of_nonneg (by omega)]
  rw [eu, ← Int.ediv_ediv_of_nonneg (Int.le_of_lt hKp)]
  generalize z / K = u at *
  have hdvd : P ∣ 18446744073709551616 := ⟨S, hM.symm⟩
  have h1 : 0 ≤ u % 18446744073709551616 / S := Int.ediv_nonneg (Int.emod_nonneg _ (by omega)) (by omega)
  have h2 : u % 18446744073709551616 / S < P := by
    have := Int.emod_lt_of_pos u (b := 18446744073709551616) (by omega)
    exact (Int.ediv_lt_iff_lt_mul hSp).2 (by rw [hM]; exact this)
  have h3 : (u / 18446744073709551616 % 18446744073709551616 * P) % 18446744073709551616 % P = 0 := by
    rw [Int.emod_emod_of_dvd _ hdvd, Int.mul_emod_left]
  refine ⟨?_, h1, h2, h3⟩
  have e2 : u / S = (u / 18446744073709551616) * P + u % 18446744073709551616 / S := by
    have := Int.emod_add_mul_ediv u 18446744073709551616
    have h4 : u = u % 18446744073709551616 + S * (u / 18446744073709551616 * P) := by
      have : S * (u / 18446744073709551616 * P) = 18446744073709551616 * (u / 18446744073709551616) := by
        rw [← hM, Int.mul_comm P S, Int.mul_assoc, Int.mul_comm _ P]
      omega
    conv => lhs; rw [h4]
    rw [Int.add_mul_ediv_left _ _ (by omega)]
    omega
  rw [e2, emm]
  have h5 : (u / 18446744073709551616 * P) % 18446744073709551616 % P = 0 := by rw [Int.emod_emod_of_dvd _ hdvd, Int.mul_emod_left]
  have h6 := Int.emod_nonneg (u / 18446744073709551616 * P) (b := 18446744073709551616) (by omega)
  have h7 := Int.emod_lt_of_pos (u / 18446744073709551616 * P) (b := 18446744073709551616) (by omega)
  have h8 : (u / 18446744073709551616 * P) % 18446744073709551616 ≤ 18446744073709551616 - P := by
    obtain ⟨c, hc⟩ := Int.dvd_of_emod_eq_zero h5
    rw [hc] at h7 ⊢
    rw [← hM] at h7 ⊢
    have : c < S := Int.lt_of_mul_lt_mul_left h7 (by omega)
    have : P * c ≤ P * (S - 1) := Int.mul_le_mul_of_nonneg_left (by omega) (by omega)
    rw [Int.mul_sub, Int.mul_one] at this
    exact this
  rw [Int.add_emod, Int.emod_eq_of_lt h1 (by omega), Int.emod_eq_of_lt (by omega) (by omega)]
theorem wi_up (z : Int) (q i R : Nat) (h : q ≤ i) : wi (z * 2 ^ (64 * q + R)) i = wi (z * 2 ^ R) (i - q) := by
  unfold wi
  obtain ⟨j, rfl⟩ : ∃ j, i = q + j := ⟨i - q, by omega⟩
  rw [show q + j - q = j by omega, Int.pow_add, show z * (2 ^ (64 * q) * 2 ^ R) = (z * 2 ^ R) * 2 ^ (64 * q) by rw [Int.mul_comm (2 ^ (64 * q)), Int.mul_assoc], show 64 * (q + j) = 64 * j + 64 * q by omega, Int.pow_add,
    Int.mul_ediv_mul_of_pos_left _ _ (Int.pow_pos (by omega))]
theorem wi_dn (z : Int) (q i R : Nat) (h : i < q) : wi (z * 2 ^ (64 * q + R)) i = 0 := by
  unfold wi
  obtain ⟨j, rfl⟩ : ∃ j, q = i + 1 + j := ⟨q - (i + 1), by omega⟩
  rw [show 64 * (i + 1 + j) + R = 64 * i + (64 + (64 * j + R)) by omega, Int.pow_add, Int.pow_add, show z * (2 ^ (64 * i) * (2 ^ 64 * 2 ^ (64 * j + R))) = (z * 2 ^ (64 * j + R) * 2 ^ 64) * 2 ^ (64 * i) by
    rw [Int.mul_comm (2 ^ (64 * i)), Int.mul_comm (2 ^ 64) (2 ^ (64 * j + R))]; simp only [Int.mul_assoc], Int.mul_ediv_cancel _ (by have : (0 : Int) < 2 ^ (64 * i) := Int.pow_pos (by omega); omega)]
  exact Int.mul_emod_left _ _
set_option maxHeartbeats 1000000 in
theorem shift_ret (z : Int) (q R : Nat) (hq : q < 4) (hR : R < 64) : Ret Tryd.prog G0 151 #[wd z, .int .i64 (64 * q + R)] (wd (z * 2 ^ (64 * q + R))) := by
  refine ret_of G0F Tryd.func151 rfl Tryd.call151 (by simp) (by simp) (by simp [Tryd.ntmps151]) ?_
  intro C hC hC0 hY
  have t1 : (64 * (q : Int) + R).tdiv 64 = q := by rw [Int.tdiv_eq_ediv_of_nonneg (by omega)]; omega
  have t2 : (64 * (q : Int) + R).tmod 64 = R := by rw [Int.tmod_eq_emod_of_nonneg (by omega)]; omega
  have m1 : min R 64 = R := by omega
  have m2 : Int.bmod (64 - (R : Int)) 18446744073709551616 = 64 - R := bm (by omega) (by omega)
  have m3 : (64 - (R : Int)).toNat = 64 - R := by omega
  have m4 : min (64 - R) 64 = 64 - R := by omega
  have m5 : (R : Int) ≤ 64 := by omega
  have m6 : (0 : Int) ≤ 64 - R := by omega
  have fd : ∀ x : Int, x.fdiv (2 ^ (64 - R)) = x / 2 ^ (64 - R) := fun x => Int.fdiv_eq_ediv_of_nonneg x (Int.le_of_lt (Int.pow_pos (by omega)))
  have OR : ∀ k, bitI .or .u64 ((wi z (k + 1) * 2 ^ R) % 18446744073709551616) (wi z k / 2 ^ (64 - R)) = wi (z * 2 ^ R) (k + 1) := fun k => by
    obtain ⟨e, h1, h2, h3⟩ := wi_shlS z R hR k
    rw [or_add (R := R) (Int.emod_nonneg _ (by omega)) (Int.emod_lt_of_pos _ (by omega)) h3 h1 h2 (by omega), e]
  have o0 := OR 0
  have o1 := OR 1
  have o2 := OR 2
  have s0 := wi_shl0 z R
  have : q = 0 ∨ q = 1 ∨ q = 2 ∨ q = 3 := by omega
  have up := wi_up z
  have dn := wi_dn z
  rcases this with rfl | rfl | rfl | rfl
  · simp at t1 t2
    repeat' (first | refine GW_seq ?_ | refine GWL_start ?_ | refine GWL_step ?_ | simp only [List.length_cons, List.length_nil, Nat.reduceAdd, Nat.reduceMul, wN] | ((first | refine GW_region' [] (by kernel_rfl) ?_ | refine GW_draw' [] follows (by kernel_rfl) (by kernel_rfl) ?_); intro Q hQ hP; simp [hC, hY, t1, t2, m1, m2, m3, m4, m5, m6, fd, wi_ge, wi_lt]; (first | refine hQ _ _ _ _ ?_ | refine hQ _ _ _ _ (by kernel_rfl) ?_ | refine hP _ _ (fun _ => ?_) | refine hP _ _ (by kernel_rfl) (fun _ => ?_)); clear hQ hP Q) | refine GW_block ?_ | refine GW_ret ?_ | refine GW_skip ?_ | refine GW_exit ?_ | refine GW_goto ?_ | refine GW_label ?_ | simp only [blockG_exit] | (refine GW_cond (by simp; rfl) ?_ ?_ <;> (intro hb; first | (exfalso; exact absurd hb (by decide)) | skip)))
    refine ⟨.inr trivial, ?_⟩
    simp [Tryd.results151, o0, o1, o2, s0]
  · simp at t1 t2
    repeat' (first | refine GW_seq ?_ | refine GWL_start ?_ | refine GWL_step ?_ | simp only [List.length_cons, List.length_nil, Nat.reduceAdd, Nat.reduceMul, wN] | ((first | refine GW_region' [] (by kernel_rfl) ?_ | refine GW_draw' [] follows (by kernel_rfl) (by kernel_rfl) ?_); intro Q hQ hP; simp [hC, hY, t1, t2, m1, m2, m3, m4, m5, m6, fd, wi_ge, wi_lt]; (first | refine hQ _ _ _ _ ?_ | refine hQ _ _ _ _ (by kernel_rfl) ?_ | refine hP _ _ (fun _ => ?_) | refine hP _ _ (by kernel_rfl) (fun _ => ?_)); clear hQ hP Q) | refine GW_block ?_ | refine GW_ret ?_ | refine GW_skip ?_ | refine GW_exit ?_ | refine GW_goto ?_ | refine GW_label ?_ | simp only [blockG_exit] | (refine GW_cond (by simp; rfl) ?_ ?_ <;> (intro hb; first | (exfalso; exact absurd hb (by decide)) | skip)))
    refine ⟨.inr trivial, ?_⟩
    simp [Tryd.results151, o0, o1, o2, s0]
    exact ⟨(dn 1 0 R (by omega)).symm, ((up 1 1 R (by omega)).trans s0).symm, (up 1 2 R (by omega)).symm, (up 1 3 R (by omega)).symm⟩
  · simp at t1 t2
    repeat' (first | refine GW_seq ?_ | refine GWL_start ?_ | refine GWL_step ?_ | simp only [List.length_cons, List.length_nil, Nat.reduceAdd, Nat.reduceMul, wN] | ((first | refine GW_region' [] (by kernel_rfl) ?_ | refine GW_draw' [] follows (by kernel_rfl) (by kernel_rfl) ?_); intro Q hQ hP; simp [hC, hY, t1, t2, m1, m2, m3, m4, m5, m6, fd, wi_ge, wi_lt]; (first | refine hQ _ _ _ _ ?_ | refine hQ _ _ _ _ (by kernel_rfl) ?_ | refine hP _ _ (fun _ => ?_) | refine hP _ _ (by kernel_rfl) (fun _ => ?_)); clear hQ hP Q) | refine GW_block ?_ | refine GW_ret ?_ | refine GW_skip ?_ | refine GW_exit ?_ | refine GW_goto ?_ | refine GW_label ?_ | simp only [blockG_exit] | (refine GW_cond (by simp; rfl) ?_ ?_ <;> (intro hb; first | (exfalso; exact absurd hb (by decide)) | skip)))
    refine ⟨.inr trivial, ?_⟩
    simp [Tryd.results151, o0, o1, o2, s0]
    exact ⟨(dn 2 0 R (by omega)).symm, (dn 2 1 R (by omega)).symm, ((up 2 2 R (by omega)).trans s0).symm, (up 2 3 R (by omega)).symm⟩
  · simp at t1 t2
    repeat' (first | refine GW_seq ?_ | refine GWL_start ?_ | refine GWL_step ?_ | simp only [List.length_cons, List.length_nil, Nat.reduceAdd, Nat.reduceMul, wN] | ((first | refine GW_region' [] (by kernel_rfl) ?_ | refine GW_draw' [] follows (by kernel_rfl) (by kernel_rfl) ?_); intro Q hQ hP; simp [hC, hY, t1, t2, m1, m2, m3, m4, m5, m6, fd, wi_ge, wi_lt]; (first | refine hQ _ _ _ _ ?_ | refine hQ _ _ _ _ (by kernel_rfl) ?_ | refine hP _ _ (fun _ => ?_) | refine hP _ _ (by kernel_rfl) (fun _ => ?_)); clear hQ hP Q) | refine GW_block ?_ | refine GW_ret ?_ | refine GW_skip ?_ | refine GW_exit ?_ | refine GW_goto ?_ | refine GW_label ?_ | simp only [blockG_exit] | (refine GW_cond (by simp; rfl) ?_ ?_ <;> (intro hb; first | (exfalso; exact absurd hb (by decide)) | skip)))
    refine ⟨.inr trivial, ?_⟩
    simp [Tryd.results151, o0, o1, o2, s0]
    exact ⟨(dn 3 0 R (by omega)).symm, (dn 3 1 R (by omega)).symm, (dn 3 2 R (by omega)).symm, ((up 3 3 R (by omega)).trans s0).symm⟩
theorem shift_n (z n : Int) (h0 : 0 ≤ n) (h1 : n < 256) : Ret Tryd.prog G0 151 #[wd z, .int .i64 n] (wd (z * 2 ^ n.toNat)) := by
  have h := shift_ret z (n / 64).toNat (n % 64).toNat (by omega) (by omega)
  have e : 64 * (n / 64).toNat + (n % 64).toNat = n.toNat := by omega
  have e' : (64 * ((n / 64).toNat : Int) + ((n % 64).toNat : Int)) = n := by omega
  rw [e, e'] at h
  exact h
@[simp] theorem qshift (z n : Int) (h0 : 0 ≤ n) (h1 : n < 256) (K : Value → Prop) : callK Tryd.prog G0 151 #[Value.agg #[.int .u64 (wi (z) 0), .int .u64 (wi (z) 1), .int .u64 (wi (z) 2), .int .u64 (wi (z) 3)], .int .i64 n] K ↔ K (wd (z * 2 ^ n.toNat)) := callK_iff G0W (by kernel_rfl) (shift_n z n h0 h1)
end Go.Gy
namespace Go.Gy
set_option linter.unusedSimpArgs false
set_option linter.unusedVariables false
open Go Go.RowKit Go.Proofs

theorem shifts_new (a b : Int) (k : Nat) (h100 : 100 ≤ k) : Fun Tryd.prog G0 141 #[wd a, wd b] G0 [] (.new (.func (.func 149) #[] #[.pointer (some ⟨k, 0, none⟩), .pointer (some ⟨k + 1, 0, none⟩)]) [(k, wb a), (k + 1, wb b)]) := by
  have e0 : rst G0 [] = G0 := rst_G G0F []
  refine new_of (B := 200) (fun j => if j = k then 200 else if j = k + 1 then 208 else j) G0F (fun _ _ => rfl) Tryd.func141 rfl Tryd.call141 (by simp [idsV, idsA, idsF, ids0]) (by rw [e0]; exact G0_closed _) ?_ (by simp [Tryd.ntmps141]) (by omega) (by rw [e0]; exact fun x hx => G0_big x (by omega)) (fun j hj => ?_) ?_ ?_ ?_ ?_
  · refine ⟨by simp [idsV, idsA, idsF, ids0, extD, keys], by simp [keys]; omega, fun q b c h1 h2 => ?_⟩
    simp at h1 h2
    rcases h1 with ⟨e1, rfl⟩ | ⟨e1, rfl⟩ <;> rcases h2 with ⟨e2, rfl⟩ | ⟨e2, rfl⟩ <;> first | rfl | omega
  · rw [e0] at hj; have := G0_dom hj; rw [if_neg (by omega), if_neg (by omega)]
  · simp [e0, dom]
  · simp
  · simp [wb, ids_lit, idsF, ids0]
  · intro C hC hC0 hY
    rw [e0]
    repeat' (first | refine GW_seq ?_ | simp only [List.length_cons, List.length_nil, Nat.reduceAdd, Nat.reduceMul, wN] | ((first | refine GW_region' [] (by kernel_rfl) ?_ | refine GW_draw' [] follows (by kernel_rfl) (by kernel_rfl) ?_); intro Q hQ hP; simp [hC, hY]; (first | refine hQ _ _ _ _ ?_ | refine hQ _ _ _ _ (by kernel_rfl) ?_ | refine hP _ _ (fun _ => ?_) | refine hP _ _ (by kernel_rfl) (fun _ => ?_)); clear hQ hP Q) | refine GW_block ?_ | refine GW_ret ?_ | refine GW_skip ?_ | refine GW_exit ?_ | refine GW_goto ?_ | refine GW_label ?_ | simp only [blockG_exit] | (refine GW_cond (by simp; rfl) ?_ ?_ <;> (intro hb; first | (exfalso; exact absurd hb (by decide)) | skip)))
    refine ⟨.inr trivial, ?_⟩
    simp [Tryd.results141, ren, renA, renF, ren0, wb]
    intro j hj
    have := G0_dom hj
    rw [if_neg (by omega), if_neg (by omega)]
theorem uz_bd (z : Int) : 0 ≤ uz z ∧ uz z < 2 ^ 256 := by unfold uz; omega
def shN (a b : Int) : Int := nbits (uz a) - nbits (uz b)
theorem shN_bd (a b : Int) : -256 ≤ shN a b ∧ shN a b ≤ 256 := by
  have h1 := nbits_bd 256 (uz_bd a).2
  have h2 := nbits_bd 256 (uz_bd b).2
  unfold shN; omega
def shXs (b N : Int) : List (Array Value) := (List.range (N + 1).toNat).map fun (i : Nat) => #[.int .i64 (N - (i : Int)), wd (b * 2 ^ (N - (i : Int)).toNat)]
theorem shXs_len (b N : Int) : (shXs b N).length = (N + 1).toNat := by simp [shXs]
theorem shXs_at (b N : Int) (i : Nat) (h : i < (N + 1).toNat) : (shXs b N)[i]? = some #[.int .i64 (N - i), wd (b * 2 ^ (N - i).toNat)] := by
  simp [shXs, h]
def shSt (a b N : Int) (l i : Nat) : GS :=
  ⟨tsL [(0, .func (.yield l) #[] #[]), (1, .pointer (some ⟨100, 0, none⟩)), (2, .pointer (some ⟨101, 0, none⟩)), (4, .int .i64 (N - i))], wHp a b, 300, i⟩
theorem shifts_it (a b : Int) (hlt : shN a b < 256) : IterG Tryd.prog G0 149 #[.pointer (some ⟨100, 0, none⟩), .pointer (some ⟨101, 0, none⟩)] (wHp a b) [100, 101] (shXs b (shN a b)) := by
  have e0 : rst (wHp a b) [100, 101] = wHp a b := hpL_rst G0F (by simp)
  refine iter_of (B := 200) (v := .tuple #[]) G0F (fun k hk => hpL_low (by simp) hk) Tryd.func149 rfl Tryd.call149 ?_ ?_ (by simp [Tryd.ntmps149]) (by omega) ?_ ?_
  · rw [e0]; simp [idsV, idsA, idsF, ids0, dom, wHp]
  · rw [e0]
    intro k c hk
    rcases hpL_mem hk with h | h
    · simp at h
      rcases h with ⟨_, rfl⟩ | ⟨_, rfl⟩ <;> simp [wb, ids_lit, idsF, ids0]
    · exact Blk.flat_ids ((G0F k c h).2)
  · rw [e0]
    intro x hx
    have h1 : ¬ x = 100 := by omega
    have h2 : ¬ x = 101 := by omega
    have h3 : 100 ≤ x := by omega
    simp [wHp, h1, h2, h3]
  · intro C l stop hC hC0 hY
    rw [e0] at hC0 ⊢
    have hbd := shN_bd a b
    have hN : Int.bmod (nbits (uz a) - nbits (uz b)) 18446744073709551616 = shN a b := bm (by unfold shN at hbd; omega) (by unfold shN at hbd; omega)
    have hlen := shXs_len b (shN a b)
    generalize hn : shN a b = N at *
    generalize hxs : shXs b N = xs at *
    refine GW_scope' 0 (fun m s => ∃ i, i ≤ stop ∧ i + m = xs.length ∧ s = shSt a b N l i) rfl ?_ ?_
    · rintro m _ ⟨i, hi, him, rfl⟩
      have hi256 : (i : Int) ≤ 257 := by omega
      by_cases hl : i < xs.length
      · have g1 : (i : Int) ≤ N := by omega
        have g2 : N - (i : Int) < 256 := by omega
        have g4 : Int.bmod (N - (i : Int) - 1) 18446744073709551616 = N - ((i + 1 : Nat) : Int) := by rw [bm (by omega) (by omega)]; omega
        have hx : xs[i]? = some #[.int .i64 (N - (i : Int)), wd (b * 2 ^ (N - (i : Int)).toNat)] := by
          rw [← hxs]; exact shXs_at b N i (by omega)
        simp only [wd_eq] at hx
        by_cases hs : i = stop
        · have q1 : (i != stop) = false := by simp [hs]
          unfold shSt
          repeat' (first | refine GW_seq ?_ | simp only [List.length_cons, List.length_nil, Nat.reduceAdd, Nat.reduceMul, wN] | ((first | refine GW_region' [] (by kernel_rfl) ?_ | refine GW_draw' [] follows (by kernel_rfl) (by kernel_rfl) ?_); intro Q hQ hP; simp [hC, hY, wHp, wb, hi, g1, g2, hx, q1]; (first | refine hQ _ _ _ _ ?_ | refine hQ _ _ _ _ (by kernel_rfl) ?_ | refine hP _ _ (fun _ => ?_) | refine hP _ _ (by kernel_rfl) (fun _ => ?_)); clear hQ hP Q) | refine GW_block ?_ | refine GW_ret ?_ | refine GW_skip ?_ | refine GW_exit ?_ | refine GW_goto ?_ | refine GW_label ?_ | simp only [blockG_exit] | (refine GW_cond (by simp; rfl) ?_ ?_ <;> (intro hb; first | (exfalso; exact absurd hb (by decide)) | skip)))
          refine ⟨.inl trivial, by simp [Tryd.results149], ?_⟩
          show i + 1 = _
          omega
        · have q1 : (i != stop) = true := by simp [hs]
          unfold shSt
          repeat' (first | refine GW_seq ?_ | simp only [List.length_cons, List.length_nil, Nat.reduceAdd, Nat.reduceMul, wN] | ((first | refine GW_region' [] (by kernel_rfl) ?_ | refine GW_draw' [] follows (by kernel_rfl) (by kernel_rfl) ?_); intro Q hQ hP; simp [hC, hY, wHp, wb, hi, g1, g2, g4, hx, q1]; (first | refine hQ _ _ _ _ ?_ | refine hQ _ _ _ _ (by kernel_rfl) ?_ | refine hP _ _ (fun _ => ?_) | refine hP _ _ (by kernel_rfl) (fun _ => ?_)); clear hQ hP Q) | refine GW_block ?_ | refine GW_ret ?_ | refine GW_skip ?_ | refine GW_exit ?_ | refine GW_goto ?_ | refine GW_label ?_ | simp only [blockG_exit] | (refine GW_cond (by simp; rfl) ?_ ?_ <;> (intro hb; first | (exfalso; exact absurd hb (by decide)) | skip)))
          refine ⟨rfl, shSt a b N l (i + 1), xs.length - (i + 1), weakL _ 300 hC G0F (m := [(100, wb a), (101, wb b)]) (m0 := [(100, wb a), (101, wb b)]) hC0 (by omega) ?_ ?_ ?_, ⟨i + 1, by omega, by omega, rfl⟩, by omega⟩
          · simp [dom]
          · simp [wb]
          · simp [wb]
      · have g1 : ¬ (i : Int) ≤ N := by omega
        unfold shSt
        repeat' (first | refine GW_seq ?_ | simp only [List.length_cons, List.length_nil, Nat.reduceAdd, Nat.reduceMul, wN] | ((first | refine GW_region' [] (by kernel_rfl) ?_ | refine GW_draw' [] follows (by kernel_rfl) (by kernel_rfl) ?_); intro Q hQ hP; simp [hC, hY, wHp, wb, g1]; (first | refine hQ _ _ _ _ ?_ | refine hQ _ _ _ _ (by kernel_rfl) ?_ | refine hP _ _ (fun _ => ?_) | refine hP _ _ (by kernel_rfl) (fun _ => ?_)); clear hQ hP Q) | refine GW_block ?_ | refine GW_ret ?_ | refine GW_skip ?_ | refine GW_exit ?_ | refine GW_goto ?_ | refine GW_label ?_ | simp only [blockG_exit] | (refine GW_cond (by simp; rfl) ?_ ?_ <;> (intro hb; first | (exfalso; exact absurd hb (by decide)) | skip)))
        refine ⟨.inl trivial, by simp [Tryd.results149], ?_⟩
        show i = _
        omega
    · intro pass
      refine GW_seq ?_
      first
        | (refine GW_region' [] (by kernel_rfl) ?_; intro Q hQ hP; simp [hC, hY, wHp, wb, hN]; (first | refine hQ _ _ _ _ ?_ | refine hP _ _ (fun _ => ?_)); clear hQ hP Q)
        | (refine GW_draw' [] follows (by kernel_rfl) (by kernel_rfl) ?_; intro Q hQ hP; simp [hC, hY, wHp, wb, hN]; (first | refine hQ _ _ _ _ (by kernel_rfl) ?_ | refine hP _ _ (by kernel_rfl) (fun _ => ?_)); clear hQ hP Q)
      simp only [List.length_cons, List.length_nil, Nat.reduceAdd, Nat.reduceMul, thenG_normal, thenG_ret, thenG_exit, thenG_goto, thenG_panic]
      refine GW_seq (GW_label ?_)
      simp only [thenG_normal]
      refine pass xs.length (shSt a b N l 0) _ ?_ ⟨0, by omega, by omega, rfl⟩
      refine weakL _ 300 hC G0F (m := [(100, wb a), (101, wb b)]) (m0 := [(100, wb a), (101, wb b)]) hC0 (by omega) ?_ ?_ ?_
      · simp [dom]
      · simp [wb]
      · simp [wb]
end Go.Gy
namespace Go.Gy
set_option linter.unusedSimpArgs false
set_option linter.unusedVariables false
open Go Go.RowKit Go.Proofs

theorem sz_id {z : Int} (h0 : -57896044618658097711785492504343953926634992332820282019728792003956564819968 ≤ z) (h1 : z < 57896044618658097711785492504343953926634992332820282019728792003956564819968) : sz z = z := by
  unfold sz; rw [Int.bmod_def]; split <;> omega
theorem sz_pos {z : Int} (h0 : 0 ≤ z) (h1 : z < 57896044618658097711785492504343953926634992332820282019728792003956564819968) : sz z = z := sz_id (Int.le_trans (by decide) h0) h1
theorem div_step (a M : Int) (hM : 0 < M) : (M ≤ a % (2 * M) → a % M = a % (2 * M) - M ∧ a / M = 2 * (a / (2 * M)) + 1) ∧ (a % (2 * M) < M → a % M = a % (2 * M) ∧ a / M = 2 * (a / (2 * M))) := by
  have h1 := Int.emod_add_mul_ediv a (2 * M)
  have h2 := Int.emod_nonneg a (b := 2 * M) (by omega)
  have h3 := Int.emod_lt_of_pos a (b := 2 * M) (by omega)
  have e : 2 * M * (a / (2 * M)) = M * (2 * (a / (2 * M))) := by rw [Int.mul_comm 2 M, Int.mul_assoc]
  rw [e] at h1
  generalize a % (2 * M) = r at *
  generalize 2 * (a / (2 * M)) = k at *
  constructor
  · intro h
    have ea : a = (r - M) + M * (k + 1) := by rw [Int.mul_add]; omega
    constructor
    · rw [ea, Int.add_mul_emod_self_left, Int.emod_eq_of_lt (by omega) (by omega)]
    · rw [ea, Int.add_mul_ediv_left _ _ (by omega), Int.ediv_eq_zero_of_lt (by omega) (by omega)]; omega
  · intro h
    have ea : a = r + M * k := by omega
    constructor
    · rw [ea, Int.add_mul_emod_self_left, Int.emod_eq_of_lt (by omega) (by omega)]
    · rw [ea, Int.add_mul_ediv_left _ _ (by omega), Int.ediv_eq_zero_of_lt (by omega) (by omega)]; omega
theorem pow_pos2 (k : Nat) : (0 : Int) < 2 ^ k := Int.pow_pos (by omega)
/-- A bit is laid where none is. -/
theorem wi_bit (c : Int) (t r : Nat) (hr : r < 64) : bitI .or .u64 (wi (c * 2 ^ (64 * t + r + 1)) t) (2 ^ r) = wi (c * 2 ^ (64 * t + r + 1) + 2 ^ (64 * t + r)) t := by
  have e1 : c * 2 ^ (64 * t + r + 1) / 2 ^ (64 * t) = c * 2 ^ (r + 1) := by
    rw [show 64 * t + r + 1 = (r + 1) + 64 * t by omega, Int.pow_add, ← Int.mul_assoc, Int.mul_ediv_cancel _ (by have := pow_pos2 (64 * t); omega)]
  have e2 : (c * 2 ^ (64 * t + r + 1) + 2 ^ (64 * t + r)) / 2 ^ (64 * t) = c * 2 ^ (r + 1) + 2 ^ r := by
    have x1 : (2 : Int) ^ (64 * t + r + 1) = 2 ^ (r + 1) * 2 ^ (64 * t) := by rw [← Int.pow_add]; congr 1; omega
    have x2 : (2 : Int) ^ (64 * t + r) = 2 ^ r * 2 ^ (64 * t) := by rw [← Int.pow_add]; congr 1; omega
    rw [x1, x2, ← Int.mul_assoc, ← Int.add_mul, Int.mul_ediv_cancel _ (by have := pow_pos2 (64 * t); omega)]
  have hM : (18446744073709551616 : Int) = 2 ^ (63 - r) * 2 ^ (r + 1) := by rw [← Int.pow_add, show 63 - r + (r + 1) = 64 by omega]; rfl
  have hdvd : (2 : Int) ^ (r + 1) ∣ 18446744073709551616 := ⟨2 ^ (63 - r), by rw [hM, Int.mul_comm]⟩
  have hp := pow_pos2 r
  have hp1 : (2 : Int) ^ (r + 1) = 2 * 2 ^ r := by rw [Int.pow_succ, Int.mul_comm]
  have h5 : (c * 2 ^ (r + 1)) % 18446744073709551616 % 2 ^ (r + 1) = 0 := by rw [Int.emod_emod_of_dvd _ hdvd, Int.mul_emod_left]
  have h6 := Int.emod_nonneg (c * 2 ^ (r + 1)) (b := 18446744073709551616) (by omega)
  have h7 := Int.emod_lt_of_pos (c * 2 ^ (r + 1)) (b := 18446744073709551616) (by omega)
  have h8 : (c * 2 ^ (r + 1)) % 18446744073709551616 ≤ 18446744073709551616 - 2 ^ (r + 1) := by
    obtain ⟨d, hd⟩ := Int.dvd_of_emod_eq_zero h5
    rw [hd] at h7 ⊢
    have hs := pow_pos2 (63 - r)
    have hq := pow_pos2 (r + 1)
    rw [hM] at h7 ⊢
    generalize (2 : Int) ^ (r + 1) = P at *
    generalize (2 : Int) ^ (63 - r) = S at *
    rw [Int.mul_comm S P] at h7 ⊢
    have : d < S := Int.lt_of_mul_lt_mul_left h7 (by omega)
    have : P * d ≤ P * (S - 1) := Int.mul_le_mul_of_nonneg_left (by omega) (by omega)
    rw [Int.mul_sub, Int.mul_one] at this
    exact this
  unfold wi
  rw [e1, e2, or_add (R := r + 1) h6 h7 h5 (by omega) (by omega) (by omega), Int.add_emod (c * 2 ^ (r + 1)), Int.emod_eq_of_lt (a := 2 ^ r) (by omega) (by omega), Int.emod_eq_of_lt (a := c * 2 ^ (r + 1) % 18446744073709551616 + 2 ^ r) (by omega) (by omega)]
theorem wi_other (c : Int) (t r j : Nat) (hr : r < 64) (h : j ≠ t) : wi (c * 2 ^ (64 * t + r + 1) + 2 ^ (64 * t + r)) j = wi (c * 2 ^ (64 * t + r + 1)) j := by
  unfold wi
  by_cases hj : j < t
  · obtain ⟨m, rfl⟩ : ∃ m, t = j + 1 + m := ⟨t - (j + 1), by omega⟩
    have e : (2 : Int) ^ (64 * (j + 1 + m) + r) = (2 ^ (64 * m + r) * 18446744073709551616) * 2 ^ (64 * j) := by
      rw [show 64 * (j + 1 + m) + r = 64 * m + r + 64 + 64 * j by omega, Int.pow_add, Int.pow_add]; rfl
    rw [Int.pow_succ, e, show c * (2 ^ (64 * m + r) * 18446744073709551616 * 2 ^ (64 * j) * 2) = (c * 2 * 2 ^ (64 * m + r) * 18446744073709551616) * 2 ^ (64 * j) by
      simp only [Int.mul_assoc, Int.mul_comm, Int.mul_left_comm], ← Int.add_mul, Int.mul_ediv_cancel _ (by have := pow_pos2 (64 * j); omega), Int.mul_ediv_cancel _ (by have := pow_pos2 (64 * j); omega), ← Int.add_mul, Int.mul_emod_left, Int.mul_emod_left]
  · obtain ⟨m, rfl⟩ : ∃ m, j = t + 1 + m := ⟨j - (t + 1), by omega⟩
    have e : (2 : Int) ^ (64 * (t + 1 + m)) = 2 ^ (64 * t + r + 1) * 2 ^ (64 * m + (63 - r)) := by
      rw [← Int.pow_add]; congr 1; omega
    have hp := pow_pos2 (64 * t + r)
    have hq : (2 : Int) ^ (64 * t + r + 1) = 2 * 2 ^ (64 * t + r) := by rw [Int.pow_succ, Int.mul_comm]
    have hc : (c * 2 ^ (64 * t + r + 1) + 2 ^ (64 * t + r)) / 2 ^ (64 * t + r + 1) = c := by
      rw [Int.add_comm, Int.add_mul_ediv_right _ _ (by omega), Int.ediv_eq_zero_of_lt (by omega) (by omega)]; omega
    rw [e, ← Int.ediv_ediv_of_nonneg (Int.le_of_lt (pow_pos2 _)), ← Int.ediv_ediv_of_nonneg (Int.le_of_lt (pow_pos2 _)), hc, Int.mul_ediv_cancel _ (by omega)]
/-- How far a division has come, k bits from its end. -/
def rA (a b : Int) (k : Nat) : Int := a % (b * 2 ^ k)
def qA (a b : Int) (k : Nat) : Int := a / (b * 2 ^ k) * 2 ^ k
theorem dA_step (a b : Int) (hb : 0 < b) (k : Nat) : (b * 2 ^ k ≤ rA a b (k + 1) → rA a b k = rA a b (k + 1) - b * 2 ^ k ∧ qA a b k = qA a b (k + 1) + 2 ^ k) ∧ (rA a b (k + 1) < b * 2 ^ k → rA a b k = rA a b (k + 1) ∧ qA a b k = qA a b (k + 1)) := by
  have hp := pow_pos2 k
  have e : b * 2 ^ (k + 1) = 2 * (b * 2 ^ k) := by rw [Int.pow_succ, ← Int.mul_assoc, Int.mul_comm]
  have e2 : ∀ x : Int, x * 2 ^ (k + 1) = 2 * x * 2 ^ k := fun x => by rw [Int.pow_succ, Int.mul_comm (2 ^ k), ← Int.mul_assoc, Int.mul_comm x 2]
  have h := div_step a (b * 2 ^ k) (Int.mul_pos hb hp)
  unfold rA qA
  rw [e, e2]
  refine ⟨fun h1 => ?_, fun h1 => ?_⟩
  · obtain ⟨h2, h3⟩ := h.1 h1
    exact ⟨h2, by rw [h3, Int.add_mul, Int.one_mul]⟩
  · obtain ⟨h2, h3⟩ := h.2 h1
    exact ⟨h2, by rw [h3]⟩
theorem dA_end (a b : Int) : rA a b 0 = a % b ∧ qA a b 0 = a / b := by simp [rA, qA]
theorem dA_begin (a b : Int) (k : Nat) (h0 : 0 ≤ a) (h : a < b * 2 ^ k) : rA a b k = a ∧ qA a b k = 0 := by
  unfold rA qA
  rw [Int.emod_eq_of_lt h0 h, Int.ediv_eq_zero_of_lt h0 h]
  simp
theorem shN_up (a b : Int) (ha0 : 0 ≤ a) (hb0 : 0 < b) (ha : a < 2 ^ 256) (hb : b < 2 ^ 256) : a < b * 2 ^ (shN a b + 1).toNat ∧ (0 ≤ shN a b → b * 2 ^ (shN a b).toNat < 2 ^ (nbits a).toNat) := by
  have ea : uz a = a := by unfold uz; omega
  have eb : uz b = b := by unfold uz; omega
  unfold shN
  rw [ea, eb]
  obtain ⟨j, hj, j1, j2⟩ := nbits_pos hb0
  by_cases h0 : a = 0
  · subst h0
    have e0 : nbits 0 = 0 := rfl
    rw [e0, hj]
    exact ⟨Int.mul_pos hb0 (pow_pos2 _), fun h => by omega⟩
  · obtain ⟨k, hk, k1, k2⟩ := nbits_pos (x := a) (by omega)
    rw [hk, hj]
    refine ⟨?_, fun h => ?_⟩
    · by_cases hkj : j ≤ k + 1
      · have e : ((k : Int) + 1 - (j + 1) + 1).toNat = k + 1 - j := by omega
        rw [e]
        refine Int.lt_of_lt_of_le k2 ?_
        have h3 : (2 : Int) ^ (k + 1) = 2 ^ j * 2 ^ (k + 1 - j) := by rw [← Int.pow_add]; congr 1; omega
        rw [h3]
        exact Int.mul_le_mul_of_nonneg_right j1 (Int.le_of_lt (pow_pos2 _))
      · have e : ((k : Int) + 1 - (j + 1) + 1).toNat = 0 := by omega
        rw [e, Int.pow_zero, Int.mul_one]
        refine Int.lt_of_lt_of_le k2 (Int.le_trans ?_ j1)
        exact_mod_cast Nat.pow_le_pow_right (by omega) (by omega : k + 1 ≤ j)
    · have e : ((k : Int) + 1 - (j + 1)).toNat = k - j := by omega
      have e' : ((k : Int) + 1).toNat = k + 1 := by omega
      rw [e, e']
      have h3 : (2 : Int) ^ (k + 1) = 2 ^ (j + 1) * 2 ^ (k - j) := by rw [← Int.pow_add]; congr 1; omega
      rw [h3]
      exact Int.mul_lt_mul_of_pos_right j2 (pow_pos2 _)
end Go.Gy
namespace Go.Gy
set_option linter.unusedSimpArgs false
set_option linter.unusedVariables false
open Go Go.RowKit Go.Proofs

def pnHp (a b : Int) (k : Nat) : Hp := hpL G0 [(200, wb (rA a b k)), (208, wb b), (216, ⟨fa 4 .u64 (wi (qA a b k)), .ty 48⟩), (224, zB)]
def pnTs : Nat → Value := tsL [(2, .pointer (some ⟨200, 0, none⟩)), (3, .pointer (some ⟨208, 0, none⟩)), (4, .pointer (some ⟨216, 0, none⟩)), (5, .pointer (some ⟨224, 0, none⟩))]
set_option maxHeartbeats 1000000 in
theorem plain_ret (a b : Int) (ha0 : 0 ≤ a) (ha : a < 57896044618658097711785492504343953926634992332820282019728792003956564819968) (hb0 : 0 < b) (hb1 : b < 57896044618658097711785492504343953926634992332820282019728792003956564819968) :
    Ret Tryd.prog G0 120 #[wd a, wd b] (.tuple #[wd (a / b), wd (a % b)]) := by
  refine ret_of G0F Tryd.func120 rfl Tryd.call120 (by simp) (by simp) (by simp [Tryd.ntmps120]) ?_
  intro C hC hC0 hY
  have hup := shN_up a b ha0 hb0 (by omega) (by omega)
  have hbd := shN_bd a b
  have hna : nbits a ≤ 255 := (nbits_bd 255 (by omega)).2
  have hlt : shN a b < 256 := by
    have ea : uz a = a := by unfold uz; omega
    have hnb := nbits_bd 256 (uz_bd b).2
    unfold shN; rw [ea]; omega
  have hit := shifts_it a b hlt
  generalize shN a b = N at *
  repeat' (first | refine GW_seq ?_ | simp only [List.length_cons, List.length_nil, Nat.reduceAdd, Nat.reduceMul, wN] | ((first | refine GW_region' [] (by kernel_rfl) ?_ | refine GW_draw' [] follows (by kernel_rfl) (by kernel_rfl) ?_); intro Q hQ hP; simp [hC, hY]; (first | refine hQ _ _ _ _ ?_ | refine hQ _ _ _ _ (by kernel_rfl) ?_ | refine hP _ _ (fun _ => ?_) | refine hP _ _ (by kernel_rfl) (fun _ => ?_)); clear hQ hP Q) | refine GW_block ?_ | refine GW_ret ?_ | refine GW_skip ?_ | refine GW_exit ?_ | refine GW_goto ?_ | refine GW_label ?_ | simp only [blockG_exit] | (refine GW_cond (by simp; rfl) ?_ ?_ <;> (intro hb; first | (exfalso; exact absurd hb (by decide)) | skip)))
  refine GW_region' [141] (by kernel_rfl) ?_; intro Q hQ hP; simp [hC, hY]
  refine heapK_of (shifts_new a b 248 (by omega)) (by simp) (fun _ _ => rfl) (by simp [Res.at]) ?_
  simp
  refine hQ _ _ _ _ ?_; clear hQ hP Q
  repeat' (first | refine GW_seq ?_ | simp only [List.length_cons, List.length_nil, Nat.reduceAdd, Nat.reduceMul, wN] | ((first | refine GW_region' [] (by kernel_rfl) ?_ | refine GW_draw' [] follows (by kernel_rfl) (by kernel_rfl) ?_); intro Q hQ hP; simp [hC, hY]; (first | refine hQ _ _ _ _ ?_ | refine hQ _ _ _ _ (by kernel_rfl) ?_ | refine hP _ _ (fun _ => ?_) | refine hP _ _ (by kernel_rfl) (fun _ => ?_)); clear hQ hP Q) | refine GW_block ?_ | refine GW_ret ?_ | refine GW_skip ?_ | refine GW_exit ?_ | refine GW_goto ?_ | refine GW_label ?_ | simp only [blockG_exit] | (refine GW_cond (by simp; rfl) ?_ ?_ <;> (intro hb; first | (exfalso; exact absurd hb (by decide)) | skip)))
  refine GW_range (f := 149) (rs := [248, 249]) (xs := shXs b N) (caps := #[.pointer (some ⟨248, 0, none⟩), .pointer (some ⟨249, 0, none⟩)]) (by simp) ?_ ?_ (by simp [Tryd.ntmps120]) pnTs (fun i => pnHp a b (N + 1 - (i : Int)).toNat) 300 (N + 1).toNat (by rw [shXs_len]; omega) ?_ ?_ ?_ ?_ ?_
  · rw [hC]
    refine IterG.cast (IterX.rn (fun k => if k = 100 then 248 else if k = 101 then 249 else k) G0F (fun k hk => hpL_low (by simp) hk) (rs := [100, 101]) ?_ hit) (by simp [ren0]) (by simp)
    refine ⟨fun k hk => ?_, ?_, ?_, ?_⟩
    · have h1 : ¬ k = 100 := by omega
      have h2 : ¬ k = 101 := by omega
      have h3 : ¬ k = 200 := by omega
      have h4 : ¬ k = 208 := by omega
      have h5 : ¬ k = 216 := by omega
      have h6 : ¬ k = 224 := by omega
      have h8 : ¬ k = 248 := by omega
      have h9 : ¬ k = 249 := by omega
      simp [h1, h2, h3, h4, h5, h6, h8, h9, wHp]
    · simp
    · simp [wHp, wb, Blk.rn, renF, ren0]
    · simp
  · intro x hx
    simp only [shXs, List.mem_map] at hx
    obtain ⟨i, _, rfl⟩ := hx
    simp
  · have e := dA_begin a b (N + 1).toNat ha0 hup.1
    refine weakL _ 300 hC G0F (m0 := []) hC0 (by omega) ?_ ?_ ?_
    · simp [dom]
    · simp [zB, wb, e.1, e.2, fa_4, wi_zero]
    · simp
  · simp [pnHp, dom]
  · intro i hi t
    refine tsL_ids ?_ t
    simp [dom, pnHp]
  · intro i x hi hx C1 l hC1 hh1 hY1
    have hCC := hC
    have hC1' : C1.G = G0 := hC1.trans hC
    obtain ⟨n, hn⟩ : ∃ n : Nat, N - (i : Int) = n := ⟨(N - i).toNat, by omega⟩
    rw [shXs_at b N i hi, hn] at hx
    have e1 : (N + 1 - (i : Int)).toNat = n + 1 := by omega
    have e2 : (N + 1 - ((i + 1 : Nat) : Int)).toNat = n := by omega
    simp only [e1, e2]
    cases hx
    have hD : b * 2 ^ n < 57896044618658097711785492504343953926634992332820282019728792003956564819968 := by
      have h1 := hup.2 (by omega)
      have h2 : (2 : Int) ^ n ≤ 2 ^ N.toNat := by exact_mod_cast Nat.pow_le_pow_right (by omega) (by omega : n ≤ N.toNat)
      have h3 : b * 2 ^ n ≤ b * 2 ^ N.toNat := Int.mul_le_mul_of_nonneg_left h2 (by omega)
      have h4 : (2 : Int) ^ (nbits a).toNat ≤ 2 ^ 255 := by exact_mod_cast Nat.pow_le_pow_right (by omega) (by omega : (nbits a).toNat ≤ 255)
      omega
    have hD0 : 0 < b * 2 ^ n := Int.mul_pos hb0 (pow_pos2 _)
    have hM0 : 0 < b * 2 ^ (n + 1) := Int.mul_pos hb0 (pow_pos2 _)
    have hA0 : 0 ≤ rA a b (n + 1) := Int.emod_nonneg _ (by omega)
    have hA1 : rA a b (n + 1) ≤ a := by
      have h1 := Int.emod_add_mul_ediv a (b * 2 ^ (n + 1))
      have h2 : 0 ≤ b * 2 ^ (n + 1) * (a / (b * 2 ^ (n + 1))) := Int.mul_nonneg (by omega) (Int.ediv_nonneg ha0 (by omega))
      unfold rA; omega
    have szD : sz (b * 2 ^ n) = b * 2 ^ n := sz_pos (Int.le_of_lt hD0) hD
    have szA : sz (rA a b (n + 1)) = rA a b (n + 1) := sz_pos hA0 (Int.lt_of_le_of_lt hA1 ha)
    obtain ⟨t, r, hr, hn'⟩ : ∃ t r, r < 64 ∧ n = 64 * t + r := ⟨n / 64, n % 64, by omega, by omega⟩
    have tq : ((n : Int)).tdiv 64 = t := by rw [Int.tdiv_eq_ediv_of_nonneg (by omega)]; omega
    have tm : ((n : Int)).tmod 64 = r := by rw [Int.tmod_eq_emod_of_nonneg (by omega)]; omega
    have t4 : t < 4 := by omega
    have t4' : (t : Int) < 4 := by omega
    have t0 : (0 : Int) ≤ t := by omega
    have tb : Int.bmod (t : Int) 18446744073709551616 = t := bm (by omega) (by omega)
    have t3 : t ≤ 3 := Nat.le_of_lt_succ t4
    have t3' : (t : Int) ≤ 3 := Int.le_of_lt_add_one t4'
    have m1 : min r 64 = r := by omega
    have m2 : (2 : Int) ^ r % 18446744073709551616 = 2 ^ r := Int.emod_eq_of_lt (Int.le_of_lt (pow_pos2 _)) (by
      have : (2 : Int) ^ r < 2 ^ 64 := by exact_mod_cast Nat.pow_lt_pow_right (by omega) hr
      exact this)
    have hst := dA_step a b hb0 n
    replace hC := hC1'
    replace hY := hY1
    by_cases hle : b * 2 ^ n ≤ rA a b (n + 1)
    · have hcmp : cmpI (sz (b * 2 ^ n)) (sz (rA a b (n + 1))) ≤ 0 := by rw [szD, szA]; unfold cmpI; split <;> (try split) <;> omega
      obtain ⟨s1, s2⟩ := hst.1 hle
      have hb1 := wi_bit (a / (b * 2 ^ (64 * t + r + 1))) t r hr
      have hb2 := wi_other (a / (b * 2 ^ (64 * t + r + 1))) t r
      rw [← hn'] at hb1 hb2
      replace hb1 : bitI .or .u64 (wi (qA a b (n + 1)) t) (2 ^ r) = wi (qA a b n) t := by rw [s2]; exact hb1
      replace hb2 : ∀ j, j ≠ t → wi (qA a b n) j = wi (qA a b (n + 1)) j := fun j hj => by rw [s2]; exact hb2 j hr hj
      have hq : fa 4 .u64 (upd (wi (qA a b (n + 1))) t (wi (qA a b n) t)) = fa 4 .u64 (wi (qA a b n)) := fa_congr fun j _ => by
        unfold upd; split
        · rename_i h; rw [h]
        · rename_i h; rw [hb2 j h]
      unfold pnHp
      repeat' (first | refine GW_seq ?_ | simp only [List.length_cons, List.length_nil, Nat.reduceAdd, Nat.reduceMul, wN] | ((first | refine GW_region' [] (by kernel_rfl) ?_ | refine GW_draw' [] follows (by kernel_rfl) (by kernel_rfl) ?_); intro Q hQ hP; simp [hC, hY, roundTs, pnTs]; (first | refine hQ _ _ _ _ ?_ | refine hQ _ _ _ _ (by kernel_rfl) ?_ | refine hP _ _ (fun _ => ?_) | refine hP _ _ (by kernel_rfl) (fun _ => ?_)); clear hQ hP Q) | refine GW_block ?_ | refine GW_ret ?_ | refine GW_skip ?_ | refine GW_exit ?_ | refine GW_goto ?_ | refine GW_label ?_ | simp only [blockG_exit] | (refine GW_cond (by simp; rfl) ?_ ?_ <;> (intro hb; first | (exfalso; exact absurd hb (by decide)) | skip)))
      intro C2 hC2 hh2 hY2
      replace hC : C2.G = G0 := hC2.trans hCC
      replace hY := hY2
      repeat' (first | refine GW_seq ?_ | simp only [List.length_cons, List.length_nil, Nat.reduceAdd, Nat.reduceMul, wN] | ((first | refine GW_region' [] (by kernel_rfl) ?_ | refine GW_draw' [] follows (by kernel_rfl) (by kernel_rfl) ?_); intro Q hQ hP; simp [hC, hY, roundTs, pnTs, wb, hcmp, tq, tm, t4, t4', t0, t3, t3', tb, m1, m2, fa_get, fa_set, hb1]; (first | refine hQ _ _ _ _ ?_ | refine hQ _ _ _ _ (by kernel_rfl) ?_ | refine hP _ _ (fun _ => ?_) | refine hP _ _ (by kernel_rfl) (fun _ => ?_)); clear hQ hP Q) | refine GW_block ?_ | refine GW_ret ?_ | refine GW_skip ?_ | refine GW_exit ?_ | refine GW_goto ?_ | refine GW_label ?_ | simp only [blockG_exit] | (refine GW_cond (by simp; rfl) ?_ ?_ <;> (intro hb; first | (exfalso; exact absurd hb (by decide)) | skip)))
      refine weakL [] 300 hC1' G0F hh1 (by omega) ?_ ?_ ?_
      · simp
      · simp [fa_ids, ids_lit, wb, zB, hq, s1]
      · simp [wb, zB, hq, s1]
    · have hcmp : ¬ cmpI (sz (b * 2 ^ n)) (sz (rA a b (n + 1))) ≤ 0 := by rw [szD, szA]; unfold cmpI; split <;> (try split) <;> omega
      obtain ⟨s1, s2⟩ := hst.2 (by omega)
      unfold pnHp
      repeat' (first | refine GW_seq ?_ | simp only [List.length_cons, List.length_nil, Nat.reduceAdd, Nat.reduceMul, wN] | ((first | refine GW_region' [] (by kernel_rfl) ?_ | refine GW_draw' [] follows (by kernel_rfl) (by kernel_rfl) ?_); intro Q hQ hP; simp [hC, hY, roundTs, pnTs]; (first | refine hQ _ _ _ _ ?_ | refine hQ _ _ _ _ (by kernel_rfl) ?_ | refine hP _ _ (fun _ => ?_) | refine hP _ _ (by kernel_rfl) (fun _ => ?_)); clear hQ hP Q) | refine GW_block ?_ | refine GW_ret ?_ | refine GW_skip ?_ | refine GW_exit ?_ | refine GW_goto ?_ | refine GW_label ?_ | simp only [blockG_exit] | (refine GW_cond (by simp; rfl) ?_ ?_ <;> (intro hb; first | (exfalso; exact absurd hb (by decide)) | skip)))
      intro C2 hC2 hh2 hY2
      replace hC : C2.G = G0 := hC2.trans hCC
      replace hY := hY2
      repeat' (first | refine GW_seq ?_ | simp only [List.length_cons, List.length_nil, Nat.reduceAdd, Nat.reduceMul, wN] | ((first | refine GW_region' [] (by kernel_rfl) ?_ | refine GW_draw' [] follows (by kernel_rfl) (by kernel_rfl) ?_); intro Q hQ hP; simp [hC, hY, roundTs, pnTs, wb, hcmp]; (first | refine hQ _ _ _ _ ?_ | refine hQ _ _ _ _ (by kernel_rfl) ?_ | refine hP _ _ (fun _ => ?_) | refine hP _ _ (by kernel_rfl) (fun _ => ?_)); clear hQ hP Q) | refine GW_block ?_ | refine GW_ret ?_ | refine GW_skip ?_ | refine GW_exit ?_ | refine GW_goto ?_ | refine GW_label ?_ | simp only [blockG_exit] | (refine GW_cond (by simp; rfl) ?_ ?_ <;> (intro hb; first | (exfalso; exact absurd hb (by decide)) | skip)))
      refine weakL [] 300 hC1' G0F hh1 (by omega) ?_ ?_ ?_
      · simp
      · simp [fa_ids, ids_lit, wb, zB, s1, s2]
      · simp [wb, zB, s1, s2]
  · left
    refine ⟨by rw [shXs_len], ?_⟩
    have e : (N + 1 - ((N + 1).toNat : Int)).toNat = 0 := by omega
    have ed := dA_end a b
    rw [e]
    unfold pnHp pnTs
    rw [ed.1, ed.2]
    repeat' (first | refine GW_seq ?_ | simp only [List.length_cons, List.length_nil, Nat.reduceAdd, Nat.reduceMul, wN] | ((first | refine GW_region' [] (by kernel_rfl) ?_ | refine GW_draw' [] follows (by kernel_rfl) (by kernel_rfl) ?_); intro Q hQ hP; simp [hC, hY, wb, fa_4, zB]; (first | refine hQ _ _ _ _ ?_ | refine hQ _ _ _ _ (by kernel_rfl) ?_ | refine hP _ _ (fun _ => ?_) | refine hP _ _ (by kernel_rfl) (fun _ => ?_)); clear hQ hP Q) | refine GW_block ?_ | refine GW_ret ?_ | refine GW_skip ?_ | refine GW_exit ?_ | refine GW_goto ?_ | refine GW_label ?_ | simp only [blockG_exit] | (refine GW_cond (by simp; rfl) ?_ ?_ <;> (intro hb; first | (exfalso; exact absurd hb (by decide)) | skip)))
    refine ⟨.inr trivial, ?_⟩
    simp [Tryd.results120]
@[simp] theorem qplain (a b : Int) (ha0 : 0 ≤ a) (ha : a < 57896044618658097711785492504343953926634992332820282019728792003956564819968) (hb0 : 0 < b) (hb1 : b < 57896044618658097711785492504343953926634992332820282019728792003956564819968) (K : Value → Prop) :
    callK Tryd.prog G0 120 #[Value.agg #[.int .u64 (wi (a) 0), .int .u64 (wi (a) 1), .int .u64 (wi (a) 2), .int .u64 (wi (a) 3)], Value.agg #[.int .u64 (wi (b) 0), .int .u64 (wi (b) 1), .int .u64 (wi (b) 2), .int .u64 (wi (b) 3)]] K ↔ K (.tuple #[wd (a / b), wd (a % b)]) := callK_iff G0W (by kernel_rfl) (plain_ret a b ha0 ha hb0 hb1)
end Go.Gy
namespace Go.Gy
set_option linter.unusedSimpArgs false
set_option linter.unusedVariables false
open Go Go.RowKit Go.Proofs
theorem ret_of_retp {P : Program} {G : Hp} {f : FuncId} {args : Array Value} {v : Value} (h : RetP P G f args (.ret v)) : Ret P G f args v := ⟨h.1 v rfl, h.2.1, h.2.2.1, h.2.2.2⟩
@[simp] theorem qmust (n : Int) (K : Value → Prop) : callK Tryd.prog G0 74 #[.bool true, .int .i64 n] K ↔ K (.tuple #[]) := callK_iff G0W (by kernel_rfl) (ret_of_retp (must_t n))
@[simp] theorem qsure (z : Int) (K : Value → Prop) : callK Tryd.prog G0 71 #[Value.agg #[.int .u64 (wi (z) 0), .int .u64 (wi (z) 1), .int .u64 (wi (z) 2), .int .u64 (wi (z) 3)], .bool false] K ↔ K (wd z) := callK_iff G0W (by kernel_rfl) (ret_of_retp (sure_f z))
/-- In the range of the signed numbers. -/
def wr (z : Int) : Prop := -57896044618658097711785492504343953926634992332820282019728792003956564819968 ≤ z ∧ z < 57896044618658097711785492504343953926634992332820282019728792003956564819968
theorem wr_sz {z : Int} (h : wr z) : sz z = z := sz_id h.1 h.2
theorem wr_ng {z : Int} (h : wr z) : ng z = decide (z < 0) := by rw [ng_sz, wr_sz h]
theorem ng_f {z : Int} (h : wr z) (h0 : 0 ≤ z) : ng z = false := by rw [wr_ng h]; simp; exact h0
theorem ng_t {z : Int} (h : wr z) (h0 : z < 0) : ng z = true := by rw [wr_ng h]; simp; exact h0
theorem least_ne (z : Int) (h : wr z) (h1 : z ≠ -57896044618658097711785492504343953926634992332820282019728792003956564819968) : (!wi z 0 == 0 || (!wi z 1 == 0 || (!wi z 2 == 0 || !wi z 3 == 9223372036854775808))) = true := by
  refine Classical.byContradiction fun hn => h1 ?_
  simp at hn
  obtain ⟨w0, w1, w2, w3⟩ := hn
  rw [← wr_sz h, sz_w, w0, w1, w2, w3]
  unfold ng; rw [w3]; decide
theorem wr_ne {z : Int} (h : wr z) (h0 : z ≠ 0) : (!wi z 0 == 0 || (!wi z 1 == 0 || (!wi z 2 == 0 || !wi z 3 == 0))) = true := words_ne z (by rw [wr_sz h]; exact h0)
theorem i64_1 : i64 1 := by decide
def lst : Int := -57896044618658097711785492504343953926634992332820282019728792003956564819968

theorem floor_zero (a : Int) : RetP Tryd.prog G0 95 #[wd a, wd 0] (.pan (erV 30)) := by
  refine retp_of G0F Tryd.func95 rfl Tryd.call95 (fun v h => by cases h) (by simp) (by simp [Tryd.ntmps95]) ?_
  intro C hC hC0 hY
  repeat' (first | refine GW_seq ?_ | simp only [List.length_cons, List.length_nil, Nat.reduceAdd, Nat.reduceMul, wN] | ((first | refine GW_region' [1000074] (by kernel_rfl) ?_ | refine GW_draw' [1000074] follows (by kernel_rfl) (by kernel_rfl) ?_); intro Q hQ hP; simp [hC, hY, wi_zero]; (repeat ((first | (refine callP_of (must_f 30) ?_)); try simp [hC, hY, wi_zero])); (first | refine hQ _ _ _ _ ?_ | refine hQ _ _ _ _ (by kernel_rfl) ?_ | refine hP _ _ (fun _ => ?_) | refine hP _ _ (by kernel_rfl) (fun _ => ?_)); clear hQ hP Q) | refine GW_block ?_ | refine GW_ret ?_ | refine GW_skip ?_ | refine GW_exit ?_ | refine GW_goto ?_ | refine GW_label ?_ | simp only [blockG_exit] | (refine GW_cond (by simp; rfl) ?_ ?_ <;> (intro hb; first | (exfalso; exact absurd hb (by decide)) | skip)))
  rfl
set_option maxHeartbeats 2000000 in
theorem floor_pp (a b : Int) (ha : wr a) (hb : wr b) (h0 : 0 < b) (ha0 : 0 ≤ a) : Ret Tryd.prog G0 95 #[wd a, wd b] (.tuple #[wd (a.fdiv b), wd (a.fmod b)]) := by
  refine ret_of G0F Tryd.func95 rfl Tryd.call95 (by simp) (by simp) (by simp [Tryd.ntmps95]) ?_
  intro C hC hC0 hY
  have hz := wr_ne hb (by omega)
  have hn1 := least_ne a ha (by omega)
  have hn2 := least_ne b hb (by omega)
  have s1 : ¬ cmpI (sz b) 0 < 0 := by rw [wr_sz hb]; unfold cmpI; split <;> (try split) <;> omega
  have s2 : ¬ cmpI (sz a) 0 < 0 := by rw [wr_sz ha]; unfold cmpI; split <;> (try split) <;> omega
  have hbu : b < 57896044618658097711785492504343953926634992332820282019728792003956564819968 := hb.2
  have hau : a < 57896044618658097711785492504343953926634992332820282019728792003956564819968 := ha.2
  have e1 : a.fdiv b = a / b := Int.fdiv_eq_ediv_of_nonneg a (by omega)
  have e2 : a.fmod b = a % b := Int.fmod_eq_emod_of_nonneg a (by omega)
  repeat' (first | refine GW_seq ?_ | simp only [List.length_cons, List.length_nil, Nat.reduceAdd, Nat.reduceMul, wN] | ((first | refine GW_region' [] (by kernel_rfl) ?_ | refine GW_draw' [] follows (by kernel_rfl) (by kernel_rfl) ?_); intro Q hQ hP; simp [hC, hY, hz, hn1, hn2, s1, s2, lsB, ha0, hau, h0, hbu]; (first | refine hQ _ _ _ _ ?_ | refine hQ _ _ _ _ (by kernel_rfl) ?_ | refine hP _ _ (fun _ => ?_) | refine hP _ _ (by kernel_rfl) (fun _ => ?_)); clear hQ hP Q) | refine GW_block ?_ | refine GW_ret ?_ | refine GW_skip ?_ | refine GW_exit ?_ | refine GW_goto ?_ | refine GW_label ?_ | simp only [blockG_exit] | (refine GW_cond (by simp; rfl) ?_ ?_ <;> (intro hb; first | (exfalso; exact absurd hb (by decide)) | skip)))
  refine ⟨.inr trivial, ?_⟩
  simp [Tryd.results95, e1, e2]
theorem neg_fdiv (m b : Int) (hb : 0 < b) : (-(m + 1)).fdiv b = -(m / b) - 1 ∧ (-(m + 1)).fmod b = b - 1 - m % b := by
  have h1 := Int.emod_add_mul_ediv m b
  have h2 := Int.emod_nonneg m (b := b) (by omega)
  have h3 := Int.emod_lt_of_pos m hb
  have e : -(m + 1) = (b - 1 - m % b) + b * (-(m / b) - 1) := by rw [Int.mul_sub, Int.mul_neg]; omega
  rw [Int.fdiv_eq_ediv_of_nonneg _ (by omega), Int.fmod_eq_emod_of_nonneg _ (by omega)]
  constructor
  · rw [e, Int.add_mul_ediv_left _ _ (by omega), Int.ediv_eq_zero_of_lt (by omega) (by omega)]; omega
  · rw [e, Int.add_mul_emod_self_left, Int.emod_eq_of_lt (by omega) (by omega)]
set_option maxHeartbeats 2000000 in
theorem floor_np (m b : Int) (ha : wr (-(m + 1))) (hal : -(m + 1) ≠ lst) (hb : wr b) (h0 : 0 < b) (hm0 : 0 ≤ m) : Ret Tryd.prog G0 95 #[wd (-(m + 1)), wd b] (.tuple #[wd ((-(m + 1)).fdiv b), wd ((-(m + 1)).fmod b)]) := by
  refine ret_of G0F Tryd.func95 rfl Tryd.call95 (by simp) (by simp) (by simp [Tryd.ntmps95]) ?_
  intro C hC hC0 hY
  obtain ⟨d1, d2⟩ := neg_fdiv m b h0
  rw [d1, d2]
  generalize ea : -(m + 1) = a at *
  have hz := wr_ne hb (by omega)
  have hn1 := least_ne a ha hal
  have hn2 := least_ne b hb (by omega)
  have s1 : ¬ cmpI (sz b) 0 < 0 := by rw [wr_sz hb]; unfold cmpI; split <;> (try split) <;> omega
  have s2 : cmpI (sz a) 0 < 0 := by rw [wr_sz ha]; unfold cmpI; split <;> (try split) <;> omega
  have hbu : b < 57896044618658097711785492504343953926634992332820282019728792003956564819968 := hb.2
  have hmu : m < 57896044618658097711785492504343953926634992332820282019728792003956564819968 := by have := ha.1; unfold lst at hal; omega
  have hq0 : 0 ≤ m / b := Int.ediv_nonneg hm0 (by omega)
  have hq1 : m / b ≤ m := Int.ediv_le_self b hm0
  have hr0 : 0 ≤ m % b := Int.emod_nonneg m (by omega)
  have hr1 : m % b < b := Int.emod_lt_of_pos m h0
  have em : -(a + 1) = m := by omega
  have f1 : (ng a == ng 1 && ng (a + 1) != ng a) = false := by
    rw [ng_t ha (by omega), ng_f (z := 1) (by unfold wr; omega) (by omega)]; rfl
  have f2 : (ng (a + 1) && ng m) = false := by rw [ng_f (z := m) (by unfold wr; omega) hm0]; simp
  have f3 : (ng (m / b) && ng (-(m / b))) = false := by rw [ng_f (z := m / b) (by unfold wr; omega) hq0]; simp
  have f4 : (ng (-(m / b)) != ng 1 && ng (-(m / b) - 1) != ng (-(m / b))) = false := by
    rw [ng_f (z := 1) (by unfold wr; omega) (by omega), ng_t (z := -(m / b) - 1) (by unfold wr; omega) (by omega)]
    cases ng (-(m / b)) <;> rfl
  have f5 : (ng b != ng 1 && ng (b - 1) != ng b) = false := by
    rw [ng_f hb (by omega), ng_f (z := 1) (by unfold wr; omega) (by omega)]; rfl
  have f6 : (ng (b - 1) != ng (m % b) && ng (b - 1 - m % b) != ng (b - 1)) = false := by
    rw [ng_f (z := b - 1) (by unfold wr; have := hb.2; omega) (by omega), ng_f (z := m % b) (by unfold wr; omega) hr0]; rfl
  have i1 := i64_1
  repeat' (first | refine GW_seq ?_ | simp only [List.length_cons, List.length_nil, Nat.reduceAdd, Nat.reduceMul, wN] | ((first | refine GW_region' [] (by kernel_rfl) ?_ | refine GW_draw' [] follows (by kernel_rfl) (by kernel_rfl) ?_); intro Q hQ hP; simp [hC, hY, hz, hn1, hn2, s1, s2, lsB, h0, hbu, hm0, hmu, em, f1, f2, f3, f4, f5, f6, i1]; (first | refine hQ _ _ _ _ ?_ | refine hQ _ _ _ _ (by kernel_rfl) ?_ | refine hP _ _ (fun _ => ?_) | refine hP _ _ (by kernel_rfl) (fun _ => ?_)); clear hQ hP Q) | refine GW_block ?_ | refine GW_ret ?_ | refine GW_skip ?_ | refine GW_exit ?_ | refine GW_goto ?_ | refine GW_label ?_ | simp only [blockG_exit] | (refine GW_cond (by simp; rfl) ?_ ?_ <;> (intro hb; first | (exfalso; exact absurd hb (by decide)) | skip)))
  refine ⟨.inr trivial, ?_⟩
  simp [Tryd.results95]
theorem upd_far {α : Type} {f : Nat → α} {x k : Nat} {v : α} (h : k < x) : upd f x v k = f k := upd_other f v (by omega)
/-- Where the divisor is above 0. -/
theorem floor_ret (a b : Int) (ha : wr a) (hal : a ≠ lst) (hb : wr b) (h0 : 0 < b) : Ret Tryd.prog G0 95 #[wd a, wd b] (.tuple #[wd (a / b), wd (a % b)]) := by
  rw [← Int.fdiv_eq_ediv_of_nonneg a (Int.le_of_lt h0), ← Int.fmod_eq_emod_of_nonneg a (Int.le_of_lt h0)]
  by_cases ha0 : 0 ≤ a
  · exact floor_pp a b ha hb h0 ha0
  · obtain ⟨m, rfl⟩ : ∃ m, a = -(m + 1) := ⟨-a - 1, by omega⟩
    exact floor_np m b ha hal hb h0 (by omega)
@[simp] theorem qfloor (a b : Int) (ha : wr a) (hal : a ≠ lst) (hb : wr b) (h0 : 0 < b) (K : Value → Prop) : callK Tryd.prog G0 95 #[Value.agg #[.int .u64 (wi (a) 0), .int .u64 (wi (a) 1), .int .u64 (wi (a) 2), .int .u64 (wi (a) 3)], Value.agg #[.int .u64 (wi (b) 0), .int .u64 (wi (b) 1), .int .u64 (wi (b) 2), .int .u64 (wi (b) 3)]] K ↔ K (.tuple #[wd (a / b), wd (a % b)]) :=
  callK_iff G0W (by kernel_rfl) (floor_ret a b ha hal hb h0)
def hp2 (a b : Int) : Hp := hpL G0 [(200, wb a), (208, wb b)]
theorem hp2_rst (a b : Int) : rst (hp2 a b) [200, 208] = hp2 a b := hpL_rst G0F (by simp)
theorem hp2_closed (a b : Int) (D : Nat → Prop) (k : Nat) (c : Blk) (h : hp2 a b k = some c) : c.ids D := by
  rcases hpL_mem h with h | h
  · simp at h
    rcases h with ⟨_, rfl⟩ | ⟨_, rfl⟩ <;> simp [wb]
  · exact G0_closed _ _ _ h
theorem hp2_free (a b : Int) (x : Nat) (hx : 300 ≤ x) : hp2 a b x = none := by
  simp [hp2, show ¬ x = 200 by omega, show ¬ x = 208 by omega, show 100 ≤ x by omega]
end Go.Gy
namespace Go.Gy
set_option linter.unusedSimpArgs false
set_option linter.unusedVariables false
set_option maxRecDepth 100000
open Go Go.RowKit Go.Proofs Go.ChangeShapes Go.WideShapes Go.ChangeAt

section
variable {H : Type} {enc : TypeId × Value → H} {P : Program}
theorem post_of_below {f : Func} {s : ChangeSpec} {apart fresh handsOn again : Bool} {W W' : World} {args : Array Value} {v : Value} {ds gs : List (DataW H)} {before pa pv : List MemPlace}
    (hW : DataW.Whole enc P f.params.toList s.vars apart W args.toList ds gs before)
    (hres : ∀ (b : Nat) (sp : Nat → Bool) (hd : Bool), DataW.TrodAll enc P W' b sp hd f.resultTypes.toList (v.resultList f.resultTypes.size) (s.fn H (ds ++ gs)).results [])
    (hargs : ∀ sp : Nat → Bool, (∀ p ∈ before, sp p.block = true) → DataW.TrodAll enc P W' 0 sp true f.params.toList args.toList (s.fn H (ds ++ gs)).args pa)
    (hvars : ∀ sp : Nat → Bool, (∀ p ∈ before, sp p.block = true) → DataW.TrodVars enc P W' sp s.vars (s.fn H (ds ++ gs)).vars pv)
    (hps : before = pa ++ pv) (hb : Below W.heap.size W W')
    (hok : ∀ (j : Nat) (t : TypeId) (r : Value), f.resultTypes[j]? = some t → (v.resultList f.resultTypes.size)[j]? = some r → Value.okWide P W' .any 0 t r) :
    s.post enc P f apart fresh handsOn again W args v W' := by
  have hlt : ∀ p ∈ before, p.block < W.heap.size := fun p hp => hW.lt p hp
  have hold : ∀ p ∈ before, (fun b => decide (b < W.heap.size)) p.block = true := fun p hp => by simpa using hlt p hp
  refine ⟨ds, gs, before, [], pa, pv, hW, hres _ _ _, hargs _ hold, hvars _ hold, World.keptBut_mono (fun p hp => ⟨hp, ?_⟩) (hb.frame (· ∈ before)), fun _ => ?_⟩
  · rw [hps, List.mem_append] at hp
    exact Or.inr hp
  · obtain ⟨_, _, _, _, _, hz, hn⟩ := hW
    refine ⟨hok, _, _, ([] ++ pa) ++ pv, ⟨[] ++ pa, pv, trodAll_append (hargs _ (fun _ _ => rfl)) (hres _ _ _), hvars _ (fun _ _ => rfl), rfl, ?_, ?_⟩, ?_⟩
    · intro b off hp
      have hin : MemPlace.cell b off ∈ before := by rw [hps]; simpa using hp
      rw [hb.frozen (hlt _ hin)]
      exact hz b off hin
    · intro ha
      have := hn ha
      rw [hps] at this
      simpa using this
    · intro p hp _
      rw [hps]
      simpa using hp
end

/-! A wide number, an int, a point. -/
theorem cells_u64 : Tryd.prog.cellsOf 46 = 1 := by kernel_rfl
theorem cells_wide : Tryd.prog.cellsOf 48 = 4 := by kernel_rfl
theorem mm_i64 : IntKind.i64.min = -9223372036854775808 ∧ IntKind.i64.max = 9223372036854775807 := by decide
theorem wf_i64 {z : Int} (h : (Lit.int .i64 z).wf = true) : i64 z := by
  simp only [Lit.wf, Bool.and_eq_true, decide_eq_true_eq, mm_i64.1, mm_i64.2] at h; unfold i64; omega
section
variable {H : Type} {enc : TypeId × Value → H} {w : World}
end

/-! What the rows' lists give. -/
theorem own : ownKnob Tryd.prog.godebug = none := by kernel_rfl
theorem gLeast : Tryd.prog.globalNamed "gyre/quot.least" = some 1 := by kernel_rfl
theorem gLeastType : (Tryd.prog.globals[1]?).map (·.type) = some 48 := by kernel_rfl
theorem gLeastRow : ((begin Tryd.prog (fun _ _ => 0) default).world.heap[1]?).bind Obj.row? = some (#[.int .u64 0, .int .u64 0, .int .u64 0, .int .u64 0], 48) := by kernel_rfl
theorem heap_of_var {P : Program} {W : World} {name : String} {g : Nat} {cs : Array Value} {z : Array Value} {T : TypeId} (hg : P.globalNamed name = some g) (hlt : g < P.globals.size) (hrow : ((begin P (fun _ _ => 0) default).world.heap[g]?).bind Obj.row? = some (z, T))
    (hS : W.ShapedOpen P) (hv : W.var? P name = some cs) : W.heap[g]? = some (.cells cs T (0, 0)) := by
  obtain ⟨c, h1, _⟩ := hS.1 g z T hlt hrow
  unfold World.var? at hv
  rw [hg] at hv
  simp only [Option.bind_some, h1, Option.some.injEq] at hv
  rw [h1, hv]
theorem gok_least {W : World} (hS : W.ShapedOpen Tryd.prog) (hv : W.var? Tryd.prog "gyre/quot.least" = some lsB.c) : GOK G0 W := fun k b hk => by
  have h := G0_mem hk
  simp [G0L] at h
  obtain ⟨rfl, rfl⟩ := h
  exact heap_of_var gLeast (of_decide_eq_true (by kernel_rfl)) gLeastRow hS hv
theorem least_of {W : World} {rest : List (String × DataW Unit)} (h : laidMet Tryd.prog (("gyre/quot.least", Proofs.YteoefgffimgcmaaDoor.Rows.laid_gyre_quot_least) :: rest) W) : W.var? Tryd.prog "gyre/quot.least" = some lsB.c :=
  Lib.tabIs_of_head (zs := [0, 0, 0, 9223372036854775808]) gLeast gLeastType Tryd.underlying48 Tryd.underlying46 cells_u64 cells_wide h
end Go.Gy
namespace Go.Gy
open Go Go.RowKit
section
variable {P : Program} {G : Hp} {V : XV}
variable {C : Ctx} {n : Nat} {d : List Deferred} {ro : Option Nat} {s : GS} {K : Exit → GS → Prop} {yc : Nat}
theorem wpList_pre (rest' : List Oper) {ops : Array Oper} {base : Nat} {pn : List FuncId} {Q : Exit → Act → World → Prop} {Kn : (Nat → Value) → Hp → Nat → Prop} {Kp : Value → Prop} {hp0 : Hp} {ts0 : Nat → Value} {l0 : List Oper} (hGF : GFlat C.G) (hR : ∀ y, C.Y = some y → Rounds P C.G C.E y) (hb : 100 ≤ base) : ∀ (l : List Oper) (k : Nat) (ts : Nat → Value) (hp : Hp) (tr : Tr) (yc : Nat) (wr yd : Bool) (r : Nat → Nat) (a : Act) (W : World),
    (∀ o ∈ l, (((∀ dd, o.dst = some dd → dd < n) ∧ ∀ c, o.op ≠ .defer c) ∧ unC P o) ∧ o ∈ l0) → (∀ t, (∀ o ∈ l0, o.dst ≠ some t) → ts t = ts0 t) → RI C n d r ts hp yc a W → (∀ x, base + 8 * k ≤ x → hp x = none) → (wr = false → ∀ k b, hp0 k = some b → hp k = some b) →
    (∀ ts hp yc r a W, Kn ts hp yc → RI C n d r ts hp yc a W → (∀ x, base + 8 * (k + l.length) ≤ x → hp x = none) → (∀ t, (∀ o ∈ l0, o.dst ≠ some t) → ts t = ts0 t) → wpListIn (Fw P ro) 0 P ops Q rest' a W) →
    (∀ pv ts hp yc r a W, Kp pv → (∀ k b, hp0 k = some b → hp k = some b) → (∀ t, (∀ o ∈ l0, o.dst ≠ some t) → ts t = ts0 t) → RI C n d r ts hp yc a W → Q (.panic [{ v := pv, recovered := false }]) a W) →
    lexX P C.G ⟨C.Y, pn, false⟩ ops base (fun ts hp _ yc => Kn ts hp yc) (fun pv _ => Kp pv) k l ts hp tr yc wr yd → wpListIn (Fw P ro) 0 P ops Q (l ++ rest') a W
  | [], k, ts, hp, tr, yc, wr, yd, r, a, W, _, hts, hi, hn, _, hQ, _, h => hQ ts hp yc r a W h hi (by simpa using hn) hts
  | o :: l, k, ts, hp, tr, yc, wr, yd, r, a, W, hd, hts, hi, hn, hs0, hQ, hQp, h => by
    have hlen : k + (o :: l).length = (k + 1) + l.length := by simp; omega
    rw [hlen] at hQ
    refine wpListIn_step fun K hK => ?_
    simp only [lexX] at h
    cases hw : wantedG ops o ts with
    | none => rw [hw] at h; exact h.elim
    | some b =>
      rw [hw] at h
      rw [wantedG_eq hi.rel hw]
      cases b with
      | true =>
        simp only at h
        simp only [if_true]
        obtain ⟨e, h1, hs, hyd, h3⟩ := opX_sound hGF hi.glob h
        have hs1 : (wr || !e.ws.isEmpty) = false → ∀ k b, hp0 k = some b → updL hp (e.ws ++ e.ns) k = some b := fun hwr k' b hk' => by
          simp only [Bool.or_eq_false_iff] at hwr
          have e0 : e.ws = [] := by have := hwr.2; simpa using this
          have hh := hs0 hwr.1 k' b hk'
          rw [e0, List.nil_append, updL_other (fun hm => by have := hs.ns k' hm; rw [hn k' (by omega)] at hh; cases hh)]
          exact hh
        refine meets hGF hR o e ts hp yc r a W 0 _ _ hi (hd o (by simp)).1.1 h1 (fun x hx => (hs.ws x hx).2) (fun x hx => ?_) (fun r' a' W' hpn hi' => hK _ _ ?_) (fun pv W' yc' hpn hi' => ?_)
        · have := hs.ns x hx; exact ⟨hn x (by omega), by omega⟩
        · rw [hpn] at h3
          refine wpList_pre rest' hGF hR hb l (k + 1) _ _ _ _ _ _ r' a' W' (fun o ho => hd o (List.mem_cons_of_mem _ ho)) (fun t ht => (putT_keep (ht o (hd o (by simp)).2)).trans (hts t ht)) hi' (fun x hx => ?_) hs1 hQ hQp h3
          rw [updL_other (fun hm => ?_)]
          · exact hn x (by omega)
          · have : x ∈ keys e.ws ∨ x ∈ keys e.ns := by simpa [keys] using hm
            rcases this with h | h
            · exact (hs.ws x h).2.1 (hn x (by omega))
            · have := hs.ns x h; omega
        · rw [hpn] at h3
          obtain ⟨_, hwr, hkp⟩ := h3
          simp only [Bool.or_eq_false_iff] at hwr
          exact hQp pv ts hp yc' r a W' hkp (hs0 hwr.1) hts hi'
      | false =>
        simp only at h
        simp only [Bool.false_eq_true, if_false]
        exact ⟨meetsU (Y := none) o ts r _ a W hi.rel ⟨h.1, (hd o (by simp)).1.2⟩, hK _ _ (wpList_pre rest' hGF hR hb l (k + 1) _ _ _ _ _ _ r _ W (fun o ho => hd o (List.mem_cons_of_mem _ ho)) (fun t ht => (putT_keep (ht o (hd o (by simp)).2)).trans (hts t ht)) (hi.put_undef (hd o (by simp)).1.1.1) (fun x hx => hn x (by omega)) hs0 hQ hQp h.2)⟩

theorem upon_append {o : Oper} {a : Act} {W : World} {R Rp : Value → World → Prop} {x y : Operand} {t e : TypeId} {i : TypeInfo} {z : Value} {g sl cap g2 off2 m m' : Nat} {cur : Array Value} {nw : List Value}
    (ho : o.op = .call { callee := .builtin .append, args := #[x, y], argTypes := #[t, t] }) (ht : P.underlying t = some (.slice e)) (hi : P.info? e = some i) (hz : i.zero = some z)
    (hx : a.eval x = .slice (some ⟨g, 0, none⟩) sl cap) (hg : W.heap[g]? = some (.cells cur e (0, 0))) (hy : a.eval y = .slice (some ⟨g2, off2, none⟩) m m') (hl : nw.length = m * i.size) (hn : ∀ j u, nw[j]? = some u → W.cell? ((⟨g2, off2, none⟩ : Addr).add j) = some u)
    (hc : cap * i.size ≤ cur.size) (hsl : sl ≤ cap) (hb1 : sl + m ≤ maxLen) (hb2 : (sl + m) * i.bytes ≤ 140737488355328) (h1 : ∀ u ∈ nw, u.oneCell' = true)
    (room : sl + m ≤ cap → R (.slice (some ⟨g, 0, none⟩) (sl + m) cap) (W.setRow g (cur.toList.take (sl * i.size) ++ nw ++ cur.toList.drop (sl * i.size + nw.length)).toArray))
    (grow : cap < sl + m → ∀ cap', sl + m ≤ cap' → R (.slice (some ⟨W.heap.size, 0, none⟩) (sl + m) cap') (W.drew.alloc (.cells ((cur.toList.take (sl * i.size)).toArray ++ nw.toArray ++ Builtin.zeroCells z.cells (cap' - (sl + m))) e))) : Upon P o a W R Rp := by
  unfold Upon
  by_cases hr : sl + m ≤ cap
  · have hfit : sl * i.size + nw.length ≤ cur.size := by
      rw [hl, ← Nat.add_mul]; exact Nat.le_trans (Nat.mul_le_mul_right _ hr) hc
    have h := run_append_room (P := P) W t o.type e i ht hi g sl cap cur hg ⟨g2, off2, none⟩ m m' _ hl hn h1 hr hfit
    simp only [execOp, ho, resolve, Sem.run_bind, Sem.run_pure, Result.andThen_ok, invoke, builtin, List.map_toArray, List.map_cons, List.map_nil, hx, hy, h]
    exact room hr
  · have hlo : (cur.toList.take (sl * i.size)).length = sl * i.size := by
      have := Nat.mul_le_mul_right i.size hsl
      simp [List.length_take]; omega
    have hold : ∀ j u, (cur.toList.take (sl * i.size))[j]? = some u → W.cell? ((⟨g, 0, none⟩ : Addr).add j) = some u := fun j u hj => by
      rw [List.getElem?_take] at hj
      split at hj
      · rw [Addr.add_lit]
        simp only [World.cell?, hg, Nat.zero_add]
        simpa using hj
      · cases hj
    have h := run_append_grow (P := P) W t o.type e i z ht hi hz ⟨g, 0, none⟩ sl cap _ hlo hold ⟨g2, off2, none⟩ m m' _ hl hn (by omega) (by simp only [maxLen] at hb1; omega) (growslice_fits (by omega) hb2)
    simp only [execOp, ho, resolve, Sem.run_bind, Sem.run_pure, Result.andThen_ok, invoke, builtin, List.map_toArray, List.map_cons, List.map_nil, hx, hy, h]
    exact grow (by omega) _ (grownCap_ge _ _ _ _)
theorem cell_obj {r : Nat → Nat} {b : Blk} {W : World} {g q : Nat} {u : Value} (hg : W.heap[g]? = some (b.obj r)) (hq : b.c[q]? = some u) (hf : flatF u = true) : W.cell? ⟨g, q, none⟩ = some u := by
  obtain ⟨c, T⟩ := b
  cases T with
  | ty t =>
    simp only [World.cell?, hg, Blk.obj, Array.getElem?_map]
    rw [hq]; simp [flatF_ren hf]
  | raw t fr => simpa [World.cell?, hg, Blk.obj] using hq
theorem step_append {r : Nat → Nat} {ts : Nat → Value} {hp : Hp} {a : Act} {W : World} {ro : Option Nat} {mn : Nat} {o : Oper} {tx ty : Tmp} {t e : TypeId} {i : TypeInfo} {z : Value} {k j off2 sl cap m m' nk : Nat} {b b2 : Blk} {nw : List Value} {next : Act → World → Prop} {Q : Exit → Act → World → Prop}
    (h : RI C n d r ts hp yc a W) (hd : ∀ dd, o.dst = some dd → dd < n)
    (ho : o.op = .call { callee := .builtin .append, args := #[.tmp tx, .tmp ty], argTypes := #[t, t] }) (ht : P.underlying t = some (.slice e)) (hi : P.info? e = some i) (hz : i.zero = some z)
    (hx : ts tx = .slice (some ⟨k, 0, none⟩) sl cap) (hk : 100 ≤ k) (hb : hp k = some b) (hbT : b.T = .ty e) (hbf : ∀ x ∈ b.c, flatF x = true)
    (hy : ts ty = .slice (some ⟨j, off2, none⟩) m m') (hb2 : hp j = some b2) (hnl : nw.length = m * i.size) (hnw : ∀ q u, nw[q]? = some u → b2.c[off2 + q]? = some u) (hb2f : ∀ x ∈ nw, flatF x = true) (h1 : ∀ u ∈ nw, u.oneCell' = true) (hzf : ∀ c, ∀ x ∈ Builtin.zeroCells z.cells c, flatF x = true)
    (hc : cap * i.size ≤ b.c.size) (hsl : sl ≤ cap) (hs1 : sl + m ≤ maxLen) (hs2 : (sl + m) * i.bytes ≤ 140737488355328) (hnk : hp nk = none ∧ 100 ≤ nk)
    (room : sl + m ≤ cap → ∀ r' a' W', RI C n d r' (putT ts o.dst (.slice (some ⟨k, 0, none⟩) (sl + m) cap)) (upd hp k (some ⟨(b.c.toList.take (sl * i.size) ++ nw ++ b.c.toList.drop (sl * i.size + nw.length)).toArray, e⟩)) yc a' W' → next a' W')
    (grow : cap < sl + m → ∀ cap', sl + m ≤ cap' → ∀ r' a' W', RI C n d r' (putT ts o.dst (.slice (some ⟨nk, 0, none⟩) (sl + m) cap')) (upd hp nk (some ⟨(b.c.toList.take (sl * i.size)).toArray ++ nw.toArray ++ Builtin.zeroCells z.cells (cap' - (sl + m)), e⟩)) yc a' W' → next a' W') :
    o.wpIn (Fw P ro) mn P a W next Q := by
  obtain ⟨bc, bT⟩ := b
  simp only at hbT
  subst hbT
  simp only at hbf hc room grow
  have hg : W.heap[r k]? = some (.cells bc e (0, 0)) := by
    have := (h.sat k _ hb).1
    rw [Blk.obj_flat hbf] at this
    exact this
  have hn : ∀ q u, nw[q]? = some u → W.cell? ((⟨r j, off2, none⟩ : Addr).add q) = some u := fun q u hq => by
    rw [Addr.add_lit]
    exact cell_obj (h.sat j b2 hb2).1 (hnw q u hq) (hb2f u (List.mem_of_getElem? hq))
  have ex : a.eval (.tmp tx) = .slice (some ⟨r k, 0, none⟩) sl cap := by
    have := (h.rel tx).resolve_left (by rw [hx]; simp [junk])
    rw [hx] at this
    exact this.1
  have ey : a.eval (.tmp ty) = .slice (some ⟨r j, off2, none⟩) m m' := by
    have := (h.rel ty).resolve_left (by rw [hy]; simp [junk])
    rw [hy] at this
    exact this.1
  have hdk : dom hp k := by unfold dom; rw [hb]; simp
  have fo : ∀ x ∈ bc.toList.take (sl * i.size), flatF x = true := fun x hx => hbf x (by simpa using List.mem_of_mem_take hx)
  have fn : ∀ x ∈ nw, flatF x = true := hb2f
  refine wp_of_upon (by rw [ho]; intro c; simp) (upon_append (R := fun u W' => next (a.put o.dst u) W') (Rp := fun _ _ => False) ho ht hi hz ex hg ey hnl hn hc hsl hs1 hs2 h1 (fun hr => ?_) (fun hr cap' hcap => ?_)) (fun u W' h => h) (fun pv W' h => h.elim)
  · have hf : ∀ x ∈ (bc.toList.take (sl * i.size) ++ nw ++ bc.toList.drop (sl * i.size + nw.length)).toArray, flatF x = true := fun x hx => by
      simp only [List.mem_toArray, List.mem_append] at hx
      rcases hx with (hx | hx) | hx
      · exact fo x hx
      · exact fn x hx
      · exact hbf x (by simpa using List.mem_of_mem_drop hx)
    refine room hr r _ _ (h.after (e := ⟨.slice (some ⟨k, 0, none⟩) (sl + m) cap, [], [(k, ⟨_, .ty e⟩)], [], none, false⟩) hd (fun _ _ => rfl) (by simp [idsV, idsA, idsF, ids0, extD, hdk]) ⟨rfl, rfl, rfl, by simp, fun q hq hnq => ?_, fun p hp1 => ?_, by simp, by simp⟩ (by simp [keys, hdk, hk]) (by simp [keys]))
    · exact setRow_other W (r k) q _ (fun e => hnq _ (List.mem_singleton.2 rfl) e.symm)
    · simp only [List.append_nil, List.mem_singleton] at hp1
      subst hp1
      refine ⟨?_, Blk.flat_ids hf⟩
      rw [Blk.obj_flat hf]
      exact setRow_heap W (r k) bc _ e (0, 0) hg
  · have hf : ∀ x ∈ (bc.toList.take (sl * i.size)).toArray ++ nw.toArray ++ Builtin.zeroCells z.cells (cap' - (sl + m)), flatF x = true := fun x hx => by
      simp only [Array.mem_append, List.mem_toArray] at hx
      rcases hx with (hx | hx) | hx
      · exact fo x hx
      · exact fn x hx
      · exact hzf _ x hx
    have hnd : ¬ dom hp nk := by unfold dom; simp [hnk.1]
    have hr' : ∀ q, dom hp q → upd r nk W.heap.size q = r q := fun q hq => upd_other _ _ (fun e => hnd (e ▸ hq))
    have hv : (Value.slice (some ⟨W.heap.size, 0, none⟩) (sl + m) cap') = ren (upd r nk W.heap.size) (.slice (some ⟨nk, 0, none⟩) (sl + m) cap') := by simp [ren, renA, renF, ren0, upd_same]
    rw [hv]
    refine grow hr cap' hcap (upd r nk W.heap.size) _ _ (h.drew.after (e := ⟨.slice (some ⟨nk, 0, none⟩) (sl + m) cap', [], [], [(nk, ⟨_, .ty e⟩)], none, false⟩) hd hr' (by simp [idsV, idsA, idsF, ids0, extD, keys]) ⟨rfl, rfl, rfl, (by show W.heap.size ≤ (W.heap.push _).size; simp), fun q hq _ => ?_, fun p hp1 => ?_, fun p hp1 => ?_, by simp⟩ (by simp [keys]) (by simp [keys, hnk]))
    · exact Below.heap_alloc _ _ _ hq
    · simp only [List.nil_append, List.mem_singleton] at hp1
      subst hp1
      refine ⟨?_, Blk.flat_ids hf⟩
      rw [Blk.obj_flat hf]
      simp only [upd_same]
      exact heap_alloc_new W.drew _
    · simp only [List.mem_singleton] at hp1
      subst hp1
      show W.heap.size ≤ upd r nk W.heap.size nk
      rw [upd_same]
      exact Nat.le_refl _
/-- What an append asks of the state at which it stands, and how the walk goes on: in the slice's own row, or in a new one of whatever capacity. -/
def appX (P : Program) (o : Oper) (ts : Nat → Value) (hp : Hp) (nk : Nat) (next : (Nat → Value) → Hp → Prop) : Prop :=
  ∃ (tx ty : Tmp) (t e : TypeId) (i : TypeInfo) (z : Value) (k j off2 sl cap m m' : Nat) (b b2 : Blk) (nw : List Value),
    o.op = .call { callee := .builtin .append, args := #[.tmp tx, .tmp ty], argTypes := #[t, t] } ∧ P.underlying t = some (.slice e) ∧ P.info? e = some i ∧ i.zero = some z ∧
    ts tx = .slice (some ⟨k, 0, none⟩) sl cap ∧ 100 ≤ k ∧ hp k = some b ∧ b.T = .ty e ∧ (∀ x ∈ b.c, flatF x = true) ∧
    ts ty = .slice (some ⟨j, off2, none⟩) m m' ∧ hp j = some b2 ∧ nw.length = m * i.size ∧ (∀ q u, nw[q]? = some u → b2.c[off2 + q]? = some u) ∧ (∀ x ∈ nw, flatF x = true) ∧ (∀ u ∈ nw, u.oneCell' = true) ∧ (∀ c, ∀ x ∈ Builtin.zeroCells z.cells c, flatF x = true) ∧
    cap * i.size ≤ b.c.size ∧ sl ≤ cap ∧ sl + m ≤ maxLen ∧ (sl + m) * i.bytes ≤ 140737488355328 ∧
    (sl + m ≤ cap → next (putT ts o.dst (.slice (some ⟨k, 0, none⟩) (sl + m) cap)) (upd hp k (some ⟨(b.c.toList.take (sl * i.size) ++ nw ++ b.c.toList.drop (sl * i.size + nw.length)).toArray, e⟩))) ∧
    (cap < sl + m → ∀ cap', sl + m ≤ cap' → next (putT ts o.dst (.slice (some ⟨nk, 0, none⟩) (sl + m) cap')) (upd hp nk (some ⟨(b.c.toList.take (sl * i.size)).toArray ++ nw.toArray ++ Builtin.zeroCells z.cells (cap' - (sl + m)), e⟩)))
end
end Go.Gy
namespace Go.Gy
open Go Go.RowKit
section
variable {P : Program} {C : Ctx} {n : Nat} {d : List Deferred} {ro : Option Nat} {s : GS} {K : Exit → GS → Prop}
/-- The state s' is what s is, by other names (ρ: from its names to those of s), or less. -/
structure WeakR (C : Ctx) (ρ : Nat → Nat) (s s' : GS) : Prop where
  ts : ∀ t, s'.ts t = junk ∨ (s.ts t = ren ρ (s'.ts t) ∧ s.ts t ≠ junk ∧ idsV (dom s'.hp) (s'.ts t))
  hp : ∀ k b, s'.hp k = some b → 100 ≤ k → s.hp (ρ k) = some (b.rn ρ) ∧ 100 ≤ ρ k
  ids : ∀ k b, s'.hp k = some b → b.ids (dom s'.hp)
  inj : ∀ k l, dom s'.hp k → dom s'.hp l → ρ k = ρ l → k = l
  id : ∀ k, k < 100 → ρ k = k
  rest : ∀ k b, k < 100 → C.G k = some b → b.rn ρ = b
  keep : ∀ k, 100 ≤ k → dom C.hp0 k → dom s'.hp k ∧ ρ k = k
  glob : ∀ k, k < 100 → s'.hp k = C.G k
  yc : s'.yc = s.yc
  free : ∀ x, s'.B ≤ x → s'.hp x = none
  low : 100 ≤ s'.B
theorem GI.rename {ρ : Nat → Nat} {r : Nat → Nat} {a : Act} {W : World} {s' : GS} (h : GI P C n d r s a W) (hw : WeakR C ρ s s') : GI P C n d (fun k => r (ρ k)) s' a W := by
  have sub : ∀ k b, s'.hp k = some b → s.hp (ρ k) = some (b.rn ρ) := fun k b hb => by
    by_cases hk : 100 ≤ k
    · exact (hw.hp k b hb hk).1
    · have hg : C.G k = some b := (hw.glob k (by omega)).symm.trans hb
      rw [hw.id k (by omega), hw.rest k b (by omega) hg, h.ri.glob k (by omega)]
      exact hg
  have subd : ∀ k, dom s'.hp k → dom s.hp (ρ k) := fun k hk => by
    unfold dom at hk
    cases hb : s'.hp k with
    | none => exact absurd hb hk
    | some b => unfold dom; rw [sub k b hb]; simp
  refine ⟨{ h.ri with rel := fun t => ?_, sat := fun k b hb => ?_, inj := fun k l hk hl e => hw.inj k l hk hl (h.ri.inj _ _ (subd k hk) (subd l hl) e), ext := ?_, keep := fun i hi => ?_, glob := hw.glob, low := fun k hk hd => ?_ }, hw.free, hw.low, h.flat, h.rounds⟩
  · rcases hw.ts t with e | ⟨e, hne, hi⟩
    · exact .inl e
    · have e' := (h.ri.rel t).resolve_left hne
      refine .inr ⟨?_, hi⟩
      rw [e'.1, e, ren_comp]
  · have hs := (h.ri.sat _ _ (sub k b hb)).1
    rw [Blk.rn_obj] at hs
    exact ⟨hs, hw.ids k b hb⟩
  · obtain ⟨S, ms, h1, h2, h3, h4⟩ := h.ri.ext
    refine ⟨S, ms, by rw [hw.yc]; exact h1, h2, fun i hi hi1 => ?_, h4⟩
    refine h3 _ (subd i hi) ?_
    unfold dom at hi
    cases hb : s'.hp i with
    | none => exact absurd hb hi
    | some b => exact (hw.hp i b hb hi1).2
  · have hk := h.ri.keep i hi
    by_cases h1 : 100 ≤ i
    · have hh := hw.keep i h1 hi
      exact ⟨hh.1, by rw [hh.2]; exact hk.2⟩
    · refine ⟨?_, by rw [hw.id i (by omega)]; exact hk.2⟩
      unfold dom; rw [hw.glob i (by omega), ← h.ri.glob i (by omega)]; exact hk.1
  · have hd' := subd k hd
    rw [hw.id k hk] at hd' ⊢
    exact h.ri.low k hk hd'
end
end Go.Gy
namespace Go.Gy
open Go Go.RowKit
section
variable {P : Program} {C : Ctx} {n : Nat} {d : List Deferred} {ro : Option Nat} {s : GS} {K : Exit → GS → Prop}
def tyBytes (P : Program) (T : TypeId) : Option Nat := (P.info? T).map (·.bytes)
theorem appX_gen {o : Oper} {ts : Nat → Value} {hp : Hp} {nk : Nat} {next : (Nat → Value) → Hp → Prop} {tx ty : Tmp} {t e : TypeId} {sz by' : Nat} {z : Value} {k j off2 sl cap m m' : Nat} {c nw : List Value} {b2 : Blk}
    (ho : o.op = .call { callee := .builtin .append, args := #[.tmp tx, .tmp ty], argTypes := #[t, t] }) (ht : P.underlying t = some (.slice e)) (hs : tySize P e = some sz) (hz : tyZero P e = some z) (hby : tyBytes P e = some by')
    (hx : ts tx = .slice (some ⟨k, 0, none⟩) sl cap) (hk : 100 ≤ k) (hb : hp k = some ⟨c.toArray, .ty e⟩) (hbf : ∀ x ∈ c, flatF x = true)
    (hy : ts ty = .slice (some ⟨j, off2, none⟩) m m') (hb2 : hp j = some b2) (hnw : ∀ q u, nw[q]? = some u → b2.c[off2 + q]? = some u) (hb2f : ∀ x ∈ nw, flatF x = true) (h1 : ∀ u ∈ nw, u.oneCell' = true) (hzf : ∀ q, ∀ x ∈ Builtin.zeroCells z.cells q, flatF x = true)
    (hm : m * sz = nw.length) (hc : cap * sz ≤ c.length) (hsl : sl ≤ cap) (hs1 : sl + m ≤ maxLen) (hs2 : (sl + m) * by' ≤ 140737488355328)
    (room : sl + m ≤ cap → next (putT ts o.dst (.slice (some ⟨k, 0, none⟩) (sl + m) cap)) (upd hp k (some ⟨(c.take (sl * sz) ++ nw ++ c.drop (sl * sz + nw.length)).toArray, .ty e⟩)))
    (grow : cap < sl + m → ∀ cap', sl + m ≤ cap' → next (putT ts o.dst (.slice (some ⟨nk, 0, none⟩) (sl + m) cap')) (upd hp nk (some ⟨(c.take (sl * sz) ++ nw ++ (Builtin.zeroCells z.cells (cap' - (sl + m))).toList).toArray, .ty e⟩))) : appX P o ts hp nk next := by
  unfold tySize at hs; unfold tyZero at hz; unfold tyBytes at hby
  cases hi : P.info? e with
  | none => rw [hi] at hs; cases hs
  | some i =>
    rw [hi] at hs hz hby
    simp only [Option.map_some, Option.some.injEq, Option.bind_some] at hs hz hby
    subst hs; subst hby
    refine ⟨tx, ty, t, e, i, z, k, j, off2, sl, cap, m, m', _, _, nw, ho, ht, hi, hz, hx, hk, hb, rfl, by simpa using hbf, hy, hb2, hm.symm, hnw, hb2f, h1, hzf, ?_, hsl, hs1, hs2, fun hr => ?_, fun hr cap' hc' => ?_⟩
    · simpa using hc
    · have := room hr
      exact this
    · have := grow hr cap' hc'
      rw [show ((c.take (sl * i.size)).toArray ++ nw.toArray ++ Builtin.zeroCells z.cells (cap' - (sl + m))) = (c.take (sl * i.size) ++ nw ++ (Builtin.zeroCells z.cells (cap' - (sl + m))).toList).toArray by
        rw [← List.append_toArray, ← List.append_toArray, Array.toArray_toList]]
      exact this
theorem appX_mk {o : Oper} {ts : Nat → Value} {hp : Hp} {nk : Nat} {next : (Nat → Value) → Hp → Prop} {tx ty : Tmp} {t e : TypeId} {sz by' : Nat} {z : Value} {k j sl cap m m' : Nat} {c c2 : List Value} {T2 : BTy}
    (ho : o.op = .call { callee := .builtin .append, args := #[.tmp tx, .tmp ty], argTypes := #[t, t] }) (ht : P.underlying t = some (.slice e)) (hs : tySize P e = some sz) (hz : tyZero P e = some z) (hby : tyBytes P e = some by')
    (hx : ts tx = .slice (some ⟨k, 0, none⟩) sl cap) (hk : 100 ≤ k) (hb : hp k = some ⟨c.toArray, .ty e⟩) (hbf : ∀ x ∈ c, flatF x = true)
    (hy : ts ty = .slice (some ⟨j, 0, none⟩) m m') (hb2 : hp j = some ⟨c2.toArray, T2⟩) (hb2f : ∀ x ∈ c2, flatF x = true) (h1 : ∀ u ∈ c2, u.oneCell' = true) (hzf : ∀ q, ∀ x ∈ Builtin.zeroCells z.cells q, flatF x = true)
    (hm : m * sz = c2.length) (hc : cap * sz ≤ c.length) (hsl : sl ≤ cap) (hs1 : sl + m ≤ maxLen) (hs2 : (sl + m) * by' ≤ 140737488355328)
    (room : sl + m ≤ cap → next (putT ts o.dst (.slice (some ⟨k, 0, none⟩) (sl + m) cap)) (upd hp k (some ⟨(c.take (sl * sz) ++ c2 ++ c.drop (sl * sz + c2.length)).toArray, .ty e⟩)))
    (grow : cap < sl + m → ∀ cap', sl + m ≤ cap' → next (putT ts o.dst (.slice (some ⟨nk, 0, none⟩) (sl + m) cap')) (upd hp nk (some ⟨(c.take (sl * sz) ++ c2 ++ (Builtin.zeroCells z.cells (cap' - (sl + m))).toList).toArray, .ty e⟩))) : appX P o ts hp nk next :=
  appX_gen ho ht hs hz hby hx hk hb hbf hy hb2 (fun q u hq => by simpa using hq) hb2f h1 hzf hm hc hsl hs1 hs2 room grow
/-- A state under other names, by lists. -/
theorem weakRL {G : Hp} {m m0 : List (Nat × Blk)} (ρ : Nat → Nat) (l : List (Nat × Value)) (B : Nat) (hG : C.G = G) (hGF : GFlat G) (h0 : C.hp0 = hpL G m0) (hB : 100 ≤ B)
    (hl : ∀ p ∈ l, s.ts p.1 = ren ρ p.2 ∧ s.ts p.1 ≠ junk ∧ idsV (dom (hpL G m)) p.2)
    (hm : ∀ p ∈ m, s.hp (ρ p.1) = some (p.2.rn ρ) ∧ p.2.ids (dom (hpL G m)) ∧ 100 ≤ p.1 ∧ p.1 < B ∧ 100 ≤ ρ p.1)
    (hi : ∀ p ∈ m, ∀ q ∈ m, ρ p.1 = ρ q.1 → p.1 = q.1) (hid : ∀ k, k < 100 → ρ k = k)
    (hk : ∀ p ∈ m0, 100 ≤ p.1 ∧ dom (hpL G m) p.1 ∧ ρ p.1 = p.1) : WeakR C ρ s ⟨tsL l, hpL G m, B, s.yc⟩ where
  ts t := by
    rcases tsL_mem (l := l) (t := t) with h | h
    · exact .inl h
    · exact .inr (hl _ h)
  hp k b hb h1 := by
    rcases hpL_mem hb with h | h
    · exact ⟨(hm _ h).1, (hm _ h).2.2.2.2⟩
    · have := (hGF k b h).1; omega
  ids k b hb := by
    rcases hpL_mem hb with h | h
    · exact (hm _ h).2.1
    · exact Blk.flat_ids ((hGF k b h).2)
  inj k q hk' hq e := by
    dsimp only at hk' hq
    unfold dom at hk' hq
    cases hb : hpL G m k with
    | none => exact absurd hb hk'
    | some b =>
      cases hc : hpL G m q with
      | none => exact absurd hc hq
      | some c =>
        rcases hpL_mem hb with h | h <;> rcases hpL_mem hc with h' | h'
        · exact hi _ h _ h' e
        · have h2 := (hGF q c h').1; rw [hid q h2] at e; have := (hm _ h).2.2.2.2; simp at this; omega
        · have h2 := (hGF k b h).1; rw [hid k h2] at e; have := (hm _ h').2.2.2.2; simp at this; omega
        · have h2 := (hGF k b h).1; have h3 := (hGF q c h').1; rw [hid k h2, hid q h3] at e; exact e
  id := hid
  rest k b hlt hb := by
    rw [hG] at hb
    exact Blk.rn_flat (hGF k b hb).2
  keep k h1k hd := by
    rw [h0] at hd
    unfold dom at hd
    cases hb : hpL G m0 k with
    | none => exact absurd hb hd
    | some b =>
      rcases hpL_mem hb with h | h
      · exact (hk _ h).2
      · have hlt := (hGF k b h).1; omega
  glob k hlt := by rw [hG]; exact hpL_low (fun p hp => (hm p hp).2.2.1) hlt
  yc := rfl
  free x hx := by
    dsimp only at hx ⊢
    cases hb : hpL G m x with
    | none => rfl
    | some b =>
      rcases hpL_mem hb with h | h
      · have := (hm _ h).2.2.2.1; simp at this; omega
      · have := (hGF x b h).1; omega
  low := hB
end
end Go.Gy
namespace Go.Gy
open Go Go.RowKit
theorem zc_mem {z : Array Value} {n : Nat} {x : Value} (h : x ∈ Builtin.zeroCells z n) : x ∈ z := by
  simp only [Builtin.zeroCells, Array.mem_map, Array.mem_range] at h
  obtain ⟨w, hw, rfl⟩ := h
  have hz : 0 < z.size := Nat.pos_of_ne_zero fun e => by rw [e] at hw; simp at hw
  have hlt := Nat.mod_lt w hz
  rw [getElem!_pos z _ hlt]
  exact Array.getElem_mem hlt
theorem zc_size (z : Array Value) (n : Nat) : (Builtin.zeroCells z n).size = n * z.size := by simp [Builtin.zeroCells]
section
variable {P : Program} {G : Hp} {V : XV}
theorem lexX_of_lexS' {ops : Array Oper} {base : Nat} {Q : QQ} : ∀ (l : List Oper) (seen : List (Option Tmp)) (k : Nat) (ts : Nat → Value) (hp : Hp) (tr : Tr) (yc : Nat) (wr yd : Bool), (∀ j, j < k → (seen[k - 1 - j]?).bind id = (ops[j]?).bind (·.dst)) → (∀ i, i < l.length → l[i]? = ops[k + i]?) →
    lexS P G V base Q seen k l ts hp tr yc wr yd → lexX P G V ops base Q.q Q.p k l ts hp tr yc wr yd
  | [], _, _, _, _, _, _, _, _, _, _, h => h
  | o :: l, seen, k, ts, hp, tr, yc, wr, yd, hs, hl, h => by
    have ho : ops[k]? = some o := by have := hl 0 (by simp); simpa using this.symm
    have hs' : ∀ j, j < k + 1 → ((o.dst :: seen)[k + 1 - 1 - j]?).bind id = (ops[j]?).bind (·.dst) := fun j hj => by
      by_cases e : j = k
      · subst e; simp [ho]
      · have : k + 1 - 1 - j = (k - 1 - j) + 1 := by omega
        rw [this, List.getElem?_cons_succ]; exact hs j (by omega)
    have hl' : ∀ i, i < l.length → l[i]? = ops[k + 1 + i]? := fun i hi => by
      have := hl (i + 1) (by simp; omega)
      rw [List.getElem?_cons_succ] at this
      rw [this]; congr 1; omega
    simp only [lexS] at h
    simp only [lexX]
    cases hw : wantedS seen k o ts with
    | none => rw [hw] at h; exact h.elim
    | some b =>
      rw [hw] at h
      rw [wantedS_eq hs hw]
      cases b with
      | true =>
        rw [wayG_true] at h
        refine opX_mono (fun e he => ⟨he.1, ?_⟩) h
        have he := he.2
        cases hpn : e.pan with
        | none => rw [hpn] at he; exact lexX_of_lexS' l _ _ _ _ _ _ _ _ hs' hl' he
        | some pv => rw [hpn] at he; exact ⟨fun hd => by simpa using he.1 hd, he.2⟩
      | false => exact ⟨h.1, lexX_of_lexS' l _ _ _ _ _ _ _ _ hs' hl' h.2⟩
end
section
variable {P : Program} {C : Ctx} {n : Nat} {d : List Deferred} {ro : Option Nat} {s : GS} {K : Exit → GS → Prop}
end
end Go.Gy
namespace Go.Gy
open Go Go.RowKit
section
variable {P : Program} {G : Hp}
theorem idsA_rn {ρ : Nat → Nat} {D D' : Nat → Prop} (h : ∀ k, D k → D' (ρ k)) {v : Value} (hv : idsA D v) : idsA D' (renA ρ v) := by
  cases v with
  | agg cs =>
    intro x hx
    obtain ⟨y, hy, rfl⟩ := Array.mem_map.1 hx
    exact idsF_rn h (hv y hy)
  | func f a b => exact idsF_rn (v := .func f a b) h hv
  | iface t v => exact idsF_rn (v := .iface t v) h hv
  | pointer p => cases p <;> first | exact h _ hv | trivial
  | slice p _ _ => cases p <;> first | exact h _ hv | trivial
  | map p => cases p <;> first | exact h _ hv | trivial
  | _ => trivial
theorem idsV_rn {ρ : Nat → Nat} {D D' : Nat → Prop} (h : ∀ k, D k → D' (ρ k)) {v : Value} (hv : idsV D v) : idsV D' (ren ρ v) := by
  cases v with
  | tuple vs =>
    intro x hx
    obtain ⟨y, hy, rfl⟩ := Array.mem_map.1 hx
    exact idsA_rn h (hv y hy)
  | agg cs => exact idsA_rn (v := .agg cs) h hv
  | func f a b => exact idsA_rn (v := .func f a b) h hv
  | iface t v => exact idsA_rn (v := .iface t v) h hv
  | pointer p => cases p <;> first | exact h _ hv | trivial
  | slice p _ _ => cases p <;> first | exact h _ hv | trivial
  | map p => cases p <;> first | exact h _ hv | trivial
  | _ => trivial
theorem Rn.bflat {ρ : Nat → Nat} {hp : Hp} (hGF : GFlat G) (hG : ∀ k, k < 100 → hp k = G k) {k : Nat} {b : Blk} (hk : k < 100) (hb : hp k = some b) : b.rn ρ = b := by
  have hg : G k = some b := (hG k hk).symm.trans hb
  exact Blk.rn_flat (hGF k b hg).2
theorem Rn.back {ρ : Nat → Nat} {hp hp' : Hp} {rs : List Nat} (hGF : GFlat G) (hG : ∀ k, k < 100 → hp k = G k) (h : Rn ρ hp hp' rs) (k : Nat) (b : Blk) (hb : rst hp' (rs.map ρ) k = some b) : ∃ q c, rst hp rs q = some c ∧ ρ q = k ∧ b = c.rn ρ := by
  unfold rst at hb
  by_cases h1 : k < 100
  · simp only [h1, true_or, if_true] at hb
    have hl := h.low k h1
    rw [hl.2] at hb
    exact ⟨k, b, by simp [rst, h1, hb], hl.1, (Rn.bflat hGF hG h1 hb).symm⟩
  · by_cases hm : k ∈ rs.map ρ
    · obtain ⟨q, hq, rfl⟩ := List.mem_map.1 hm
      simp only [hm, or_true, if_true] at hb
      have hq1 : 100 ≤ q := by
        by_cases hq1 : 100 ≤ q
        · exact hq1
        · exact absurd (by rw [(h.low q (by omega)).1]; omega) h1
      obtain ⟨c, e1, e2⟩ := h.at' q hq hq1
      rw [e2] at hb; cases hb
      exact ⟨q, c, by simp [rst, hq, e1], rfl, rfl⟩
    · simp [h1, hm] at hb
theorem Rn.mem {hp : Hp} {rs : List Nat} {k : Nat} (hk : dom (rst hp rs) k) (h1 : 100 ≤ k) : k ∈ rs := by
  unfold dom rst at hk
  by_cases hm : k ∈ rs
  · exact hm
  · simp [hm] at hk; omega
theorem Rn.sat {ρ : Nat → Nat} {hp hp' : Hp} {rs : List Nat} (hGF : GFlat G) (hG : ∀ k, k < 100 → hp k = G k) (h : Rn ρ hp hp' rs) (hcl : ∀ k b, rst hp rs k = some b → b.ids (dom (rst hp rs))) {r : Nat → Nat} {W : World}
    (hsat : Sat r (dom (rst hp' (rs.map ρ))) (rst hp' (rs.map ρ)) W) (hinj : Inj r (dom (rst hp' (rs.map ρ)))) (hlow : ∀ k, k < 100 → dom (rst hp' (rs.map ρ)) k → r k = k) :
    Sat (fun k => r (ρ k)) (dom (rst hp rs)) (rst hp rs) W ∧ Inj (fun k => r (ρ k)) (dom (rst hp rs)) ∧ ∀ k, k < 100 → dom (rst hp rs) k → r (ρ k) = k := by
  refine ⟨fun k b hk => ⟨?_, hcl k b hk⟩, fun k l hk hl e => ?_, fun k hk hd => ?_⟩
  · have hd : dom (rst hp rs) k := by unfold dom; rw [hk]; simp
    have hd' := h.dom1 hd
    unfold dom at hd'
    cases hb : rst hp' (rs.map ρ) (ρ k) with
    | none => exact absurd hb hd'
    | some b' =>
      have e : b' = b.rn ρ := by
        unfold rst at hb hk
        by_cases h1 : k < 100
        · have hl := h.low k h1
          simp only [h1, true_or, if_true] at hk
          rw [hl.1] at hb
          simp only [h1, true_or, if_true] at hb
          rw [hl.2, hk] at hb
          cases hb
          exact (Rn.bflat hGF hG h1 hk).symm
        · have hm : k ∈ rs := by
            by_cases hm : k ∈ rs
            · exact hm
            · simp [h1, hm] at hk
          simp only [hm, or_true, if_true] at hk
          obtain ⟨c, e1, e2⟩ := h.at' k hm (by omega)
          rw [hk] at e1; cases e1
          have hm' : ρ k ∈ rs.map ρ := List.mem_map.2 ⟨k, hm, rfl⟩
          simp only [hm', or_true, if_true] at hb
          rw [e2] at hb; cases hb; rfl
      have := (hsat _ b' hb).1
      rw [e, Blk.rn_obj] at this
      exact this
  · have e2 := hinj _ _ (h.dom1 hk) (h.dom1 hl) e
    by_cases h1 : k < 100
    · by_cases h2 : l < 100
      · rw [(h.low k h1).1, (h.low l h2).1] at e2; exact e2
      · have := h.big l (Rn.mem hl (by omega)) (by omega)
        rw [(h.low k h1).1] at e2; omega
    · by_cases h2 : l < 100
      · have := h.big k (Rn.mem hk (by omega)) (by omega)
        rw [(h.low l h2).1] at e2; omega
      · exact h.inj k (Rn.mem hk (by omega)) l (Rn.mem hl (by omega)) (by omega) (by omega) e2
  · have := h.dom1 hd
    rw [(h.low k hk).1] at this ⊢
    exact hlow k hk this
def rnL (ρ : Nat → Nat) (ws : List (Nat × Blk)) : List (Nat × Blk) := ws.map fun p => (ρ p.1, p.2.rn ρ)
theorem keys_rnL {ρ : Nat → Nat} {ws : List (Nat × Blk)} {k : Nat} (h : k ∈ keys (rnL ρ ws)) : ∃ q ∈ keys ws, ρ q = k := by
  simp only [keys, rnL, List.map_map, List.mem_map, Function.comp] at h ⊢
  obtain ⟨p, hp, rfl⟩ := h
  exact ⟨p.1, ⟨p, hp, rfl⟩, rfl⟩
/-- A contract under other names. -/
theorem Fun.rn {f : FuncId} {args : Array Value} {hp hp' : Hp} {rs : List Nat} {v : Value} {ws : List (Nat × Blk)} (ρ : Nat → Nat) (hGF : GFlat G) (hG : ∀ k, k < 100 → hp k = G k) (h : Rn ρ hp hp' rs) (hi : Fun P G f args hp rs (.ret v ws)) :
    Fun P G f (args.map (ren ρ)) hp' (rs.map ρ) (.ret (ren ρ v) (rnL ρ ws)) := by
  refine ⟨hi.enter, fun x hx => ?_, fun k b hb => ?_, ⟨idsV_rn (fun k hk => h.dom1 hk) hi.fits.1, fun k hk => ?_, fun k b c h1 h2 => ?_, fun p hp1 => ?_⟩, fun r W hgok hsat hinj hlow => ?_⟩
  · obtain ⟨y, hy, rfl⟩ := Array.mem_map.1 hx
    exact idsV_rn (fun k hk => h.dom1 hk) (hi.ids y hy)
  · obtain ⟨q, c, h1, rfl, rfl⟩ := h.back hGF hG k b hb
    exact Blk.ids_rn (fun k hk => h.dom1 hk) (hi.closed q c h1)
  · obtain ⟨q, hq, rfl⟩ := keys_rnL hk
    have h1 := hi.fits.2.1 q hq
    obtain ⟨c, e1, e2⟩ := h.at' q h1.1 h1.2.2
    exact ⟨List.mem_map.2 ⟨q, h1.1, rfl⟩, by unfold dom; rw [e2]; simp, h.big q h1.1 h1.2.2⟩
  · simp only [rnL, List.mem_map, Prod.mk.injEq] at h1 h2
    obtain ⟨p, hp1, e1, rfl⟩ := h1
    obtain ⟨q, hq1, e2, rfl⟩ := h2
    have k1 := hi.fits.2.1 p.1 (mem_keys.2 ⟨p, hp1, rfl⟩)
    have k2 := hi.fits.2.1 q.1 (mem_keys.2 ⟨q, hq1, rfl⟩)
    have e3 := h.inj p.1 k1.1 q.1 k2.1 k1.2.2 k2.2.2 (e1.trans e2.symm)
    have e4 := hi.fits.2.2.1 p.1 p.2 q.2 hp1 (by rw [e3]; exact hq1)
    rw [e4]
  · simp only [rnL, List.mem_map] at hp1
    obtain ⟨p, hp1, rfl⟩ := hp1
    exact Blk.ids_rn (fun k hk => h.dom1 hk) (hi.fits.2.2.2 p hp1)
  · obtain ⟨s1, s2, s3⟩ := h.sat hGF hG hi.closed hsat hinj hlow
    have hrun := hi.run (fun k => r (ρ k)) W hgok s1 s2 s3
    have ha : (args.map (ren ρ)).map (ren r) = args.map (ren fun k => r (ρ k)) := by
      rw [Array.map_map]
      exact Array.map_congr_left fun x _ => ren_comp r ρ x
    rw [ha]
    refine hrun.mono fun e W' ⟨he, ht⟩ => ⟨?_, ht.os, ht.tape, ht.output, ht.size, fun k hk hnw => ht.same k hk fun p hp1 => ?_, fun p hp1 => ?_, by simp, by simp⟩
    · rw [he, ren_comp]
    · exact hnw (ρ p.1, p.2.rn ρ) (by simp only [rnL, List.mem_map]; exact ⟨p, hp1, rfl⟩)
    · simp only [List.append_nil, rnL, List.mem_map] at hp1
      obtain ⟨p, hp1, rfl⟩ := hp1
      have h1 := ht.has p (by simpa using hp1)
      exact ⟨by rw [Blk.rn_obj]; exact h1.1, Blk.ids_rn (D := extD (dom (rst hp rs)) []) (fun k hk => by rw [extD_nil] at hk ⊢; exact h.dom1 hk) h1.2⟩
/-! Where more variables are laid. -/
theorem Ret.up {G' : Hp} {f : FuncId} {args : Array Value} {v : Value} (h : Ret P G f args v) (hg : ∀ W, GOK G' W → GOK G W) : Ret P G' f args v := ⟨h.1, h.2.1, h.2.2.1, fun W hW => h.2.2.2 W (hg W hW)⟩
theorem RetP.up {G' : Hp} {f : FuncId} {args : Array Value} {o : Out} (h : RetP P G f args o) (hg : ∀ W, GOK G' W → GOK G W) : RetP P G' f args o := ⟨h.1, h.2.1, h.2.2.1, fun W hW => h.2.2.2 W (hg W hW)⟩
end
end Go.Gy
namespace Go.Gy
open Go Go.RowKit
/-- A contract: what is handed back, v and its new blocks, is one that R holds of. -/
structure FunS (P : Program) (G : Hp) (f : FuncId) (args : Array Value) (hp : Hp) (rs : List Nat) (R : Value → List (Nat × Blk) → Prop) : Prop where
  enter : ∀ a w, (callFunc f a).run P w = .ok (.enter f a) w
  ids : ∀ x ∈ args, idsV (dom (rst hp rs)) x
  closed : ∀ k b, rst hp rs k = some b → b.ids (dom (rst hp rs))
  fits : ∀ v ns, R v ns → idsV (extD (dom (rst hp rs)) ns) v ∧ (∀ k ∈ keys ns, 100 ≤ k ∧ ¬ dom (rst hp rs) k) ∧ (∀ k b c, (k, b) ∈ ns → (k, c) ∈ ns → b = c) ∧ ∀ p ∈ ns, p.2.ids (extD (dom (rst hp rs)) ns)
  run : ∀ r W, GOK G W → Sat r (dom (rst hp rs)) (rst hp rs) W → Inj r (dom (rst hp rs)) → (∀ k, k < 100 → dom (rst hp rs) k → r k = k) →
    CallsS P f (args.map (ren r)) W fun e W' => ∃ v ns r', R v ns ∧ (∀ k, dom (rst hp rs) k → r' k = r k) ∧ e = .returned (ren r' v) ∧ Turn r' (extD (dom (rst hp rs)) ns) W W' [] ns
section
variable {P : Program} {G : Hp}
theorem FunS.under {f : FuncId} {args : Array Value} {hp hp' : Hp} {rs : List Nat} {R : Value → List (Nat × Blk) → Prop} (h : FunS P G f args hp' rs R) (e : ∀ k, (k < 100 ∨ k ∈ rs) → hp' k = hp k) : FunS P G f args hp rs R := by
  have er : rst hp' rs = rst hp rs := rst_congr e
  exact ⟨h.enter, by rw [← er]; exact h.ids, by rw [← er]; exact h.closed, by rw [← er]; exact h.fits, by rw [← er]; exact h.run⟩
/-- What is handed back, by other names. -/
def RR (ρ : Nat → Nat) (R : Value → List (Nat × Blk) → Prop) (v' : Value) (ns' : List (Nat × Blk)) : Prop := ∃ v ns, R v ns ∧ v' = ren ρ v ∧ ns' = rnL ρ ns
theorem mem_keys_rnL {ρ : Nat → Nat} {ns : List (Nat × Blk)} {k : Nat} (h : k ∈ keys ns) : ρ k ∈ keys (rnL ρ ns) := by
  obtain ⟨p, hp, rfl⟩ := mem_keys.1 h
  exact mem_keys.2 ⟨(ρ p.1, p.2.rn ρ), List.mem_map.2 ⟨p, hp, rfl⟩, rfl⟩
theorem FunS.rn {f : FuncId} {args : Array Value} {hp hp' : Hp} {rs : List Nat} {R : Value → List (Nat × Blk) → Prop} (ρ : Nat → Nat) (hGF : GFlat G) (hG : ∀ k, k < 100 → hp k = G k) (h : Rn ρ hp hp' rs) (hi : FunS P G f args hp rs R)
    (hnew : ∀ v ns, R v ns → ∀ k ∈ keys ns, 100 ≤ ρ k ∧ ¬ dom (rst hp' (rs.map ρ)) (ρ k)) (hnj : ∀ v ns, R v ns → ∀ k ∈ keys ns, ∀ l ∈ keys ns, ρ k = ρ l → k = l) :
    FunS P G f (args.map (ren ρ)) hp' (rs.map ρ) (RR ρ R) := by
  have hext : ∀ ns, ∀ k, extD (dom (rst hp rs)) ns k → extD (dom (rst hp' (rs.map ρ))) (rnL ρ ns) (ρ k) := fun ns k hk => hk.elim (fun h1 => .inl (h.dom1 h1)) (fun h1 => .inr (mem_keys_rnL h1))
  refine ⟨hi.enter, fun x hx => ?_, fun k b hb => ?_, fun v' ns' hR' => ?_, fun r W hgok hsat hinj hlow => ?_⟩
  · obtain ⟨y, hy, rfl⟩ := Array.mem_map.1 hx
    exact idsV_rn (fun k hk => h.dom1 hk) (hi.ids y hy)
  · obtain ⟨q, c, h1, rfl, rfl⟩ := h.back hGF hG k b hb
    exact Blk.ids_rn (fun k hk => h.dom1 hk) (hi.closed q c h1)
  · obtain ⟨v, ns, hR, rfl, rfl⟩ := hR'
    obtain ⟨f1, f2, f3, f4⟩ := hi.fits v ns hR
    refine ⟨idsV_rn (hext ns) f1, fun k hk => ?_, fun k b c h1 h2 => ?_, fun p hp1 => ?_⟩
    · obtain ⟨q, hq, rfl⟩ := keys_rnL hk
      exact hnew v ns hR q hq
    · simp only [rnL, List.mem_map, Prod.mk.injEq] at h1 h2
      obtain ⟨p, hp1, e1, rfl⟩ := h1
      obtain ⟨q, hq1, e2, rfl⟩ := h2
      have e3 := hnj v ns hR p.1 (mem_keys.2 ⟨p, hp1, rfl⟩) q.1 (mem_keys.2 ⟨q, hq1, rfl⟩) (e1.trans e2.symm)
      rw [f3 p.1 p.2 q.2 hp1 (by rw [e3]; exact hq1)]
    · simp only [rnL, List.mem_map] at hp1
      obtain ⟨p, hp1, rfl⟩ := hp1
      exact Blk.ids_rn (hext ns) (f4 p hp1)
  · obtain ⟨s1, s2, s3⟩ := h.sat hGF hG hi.closed hsat hinj hlow
    have hrun := hi.run (fun k => r (ρ k)) W hgok s1 s2 s3
    have ha : (args.map (ren ρ)).map (ren r) = args.map (ren fun k => r (ρ k)) := by
      rw [Array.map_map]
      exact Array.map_congr_left fun x _ => ren_comp r ρ x
    rw [ha]
    refine hrun.mono fun e W' ⟨v, ns, r1, hR, hr1, he, ht⟩ => ?_
    obtain ⟨f1, f2, f3, f4⟩ := hi.fits v ns hR
    let r2 : Nat → Nat := fun k' => match (keys ns).find? (fun k => ρ k == k') with | some k => r1 k | none => r k'
    have e1 : ∀ k ∈ keys ns, r2 (ρ k) = r1 k := fun k hk => by
      show (match (keys ns).find? (fun l => ρ l == ρ k) with | some k => r1 k | none => r (ρ k)) = r1 k
      cases hf : (keys ns).find? (fun l => ρ l == ρ k) with
      | none => have := List.find?_eq_none.1 hf k hk; simp at this
      | some l =>
        have h1 := List.find?_some hf
        have h2 := List.mem_of_find?_eq_some hf
        simp only [beq_iff_eq] at h1
        rw [hnj v ns hR l h2 k hk h1]
    have e2 : ∀ k, dom (rst hp' (rs.map ρ)) k → r2 k = r k := fun k hk => by
      show (match (keys ns).find? (fun l => ρ l == k) with | some k => r1 k | none => r k) = r k
      cases hf : (keys ns).find? (fun l => ρ l == k) with
      | none => rfl
      | some l =>
        have h1 := List.find?_some hf
        have h2 := List.mem_of_find?_eq_some hf
        simp only [beq_iff_eq] at h1
        exact absurd hk (h1 ▸ (hnew v ns hR l h2).2)
    have e3 : ∀ k, extD (dom (rst hp rs)) ns k → r2 (ρ k) = r1 k := fun k hk => by
      by_cases hm : k ∈ keys ns
      · exact e1 k hm
      · have hd := hk.resolve_right hm
        rw [e2 _ (h.dom1 hd), hr1 k hd]
    refine ⟨ren ρ v, rnL ρ ns, r2, ⟨v, ns, hR, rfl, rfl⟩, e2, ?_, ht.os, ht.tape, ht.output, ht.size, fun k hk _ => ht.same k hk (by simp), fun p hp1 => ?_, fun p hp1 => ?_, fun p hp1 q hq1 hpq => ?_⟩
    · rw [he, ren_comp, ren_congr e3 f1]
    · simp only [List.nil_append, rnL, List.mem_map] at hp1
      obtain ⟨p, hp1, rfl⟩ := hp1
      have hh := ht.has p (by simpa using hp1)
      refine ⟨?_, Blk.ids_rn (hext ns) hh.2⟩
      rw [Blk.rn_obj, Blk.obj_congr e3 hh.2]
      show W'.heap[r2 (ρ p.1)]? = _
      rw [e1 _ (mem_keys.2 ⟨p, hp1, rfl⟩)]
      exact hh.1
    · simp only [rnL, List.mem_map] at hp1
      obtain ⟨p, hp1, rfl⟩ := hp1
      show W.heap.size ≤ r2 (ρ p.1)
      rw [e1 _ (mem_keys.2 ⟨p, hp1, rfl⟩)]
      exact ht.fresh p hp1
    · simp only [rnL, List.mem_map] at hp1 hq1
      obtain ⟨p, hp1, rfl⟩ := hp1
      obtain ⟨q, hq1, rfl⟩ := hq1
      have k1 := mem_keys.2 ⟨p, hp1, rfl⟩
      have k2 := mem_keys.2 ⟨q, hq1, rfl⟩
      have hpq' : r2 (ρ p.1) = r2 (ρ q.1) := hpq
      rw [e1 _ k1, e1 _ k2] at hpq'
      have := ht.apart p hp1 q hq1 hpq'
      show ρ p.1 = ρ q.1
      rw [this]
/-- **FROM A BODY TO A CONTRACT**, what is handed back being any that R holds of. -/
theorem newS_of {f : FuncId} {fn : Func} {c : Code} {args : Array Value} {hp : Hp} {rs : List Nat} {R : Value → List (Nat × Blk) → Prop} {B : Nat} (hGF : GFlat G) (hG : ∀ k, k < 100 → hp k = G k) (hf : P.funcs[f]? = some fn) (hb : fn.body = some c) (hcall : ∀ a w, (callFunc f a).run P w = .ok (.enter f a) w)
    (ha : ∀ x ∈ args, idsV (dom (rst hp rs)) x) (hcl : ∀ k b, rst hp rs k = some b → b.ids (dom (rst hp rs)))
    (hfit : ∀ v ns, R v ns → idsV (extD (dom (rst hp rs)) ns) v ∧ (∀ k ∈ keys ns, 100 ≤ k ∧ ¬ dom (rst hp rs) k) ∧ (∀ k b c, (k, b) ∈ ns → (k, c) ∈ ns → b = c) ∧ ∀ p ∈ ns, p.2.ids (extD (dom (rst hp rs)) ns))
    (hn : args.size ≤ fn.ntmps) (hB : 100 ≤ B) (hfree : ∀ x, B ≤ x → rst hp rs x = none)
    (h : ∀ C : Ctx, C.G = G → C.hp0 = rst hp rs → C.Y = none → GW P C fn.ntmps [] none c ⟨fun t => args.getD t undef, rst hp rs, B, 0⟩ fun e s => (e = .normal ∨ e = .ret) ∧ (∀ k, dom (rst hp rs) k → s.hp k = rst hp rs k) ∧
      ∃ v ns ρ, R v ns ∧ (∀ k, dom (rst hp rs) k → ρ k = k) ∧ (∀ p ∈ ns, ¬ dom (rst hp rs) (ρ p.1) ∧ 100 ≤ ρ p.1) ∧ (∀ p ∈ ns, ∀ q ∈ ns, ρ p.1 = ρ q.1 → p.1 = q.1) ∧ resG P fn.results.toList s.ts s.hp = some (ren ρ v) ∧ ∀ p ∈ ns, s.hp (ρ p.1) = some (p.2.rn ρ)) : FunS P G f args hp rs R := by
  refine ⟨hcall, ha, hcl, hfit, fun r W hgok hsat hinjr hlow => callsIn_of_wp_marks hf hb ⟨fn, hf⟩ ?_⟩
  have ltW : ∀ k, dom (rst hp rs) k → r k < W.heap.size := fun k hk => by
    unfold dom at hk
    cases hb : rst hp rs k with
    | none => exact absurd hb hk
    | some b => exact (Array.getElem?_eq_some_iff.1 (hsat k b hb).1).1
  let im : Nat → Prop := fun j => ∃ i, dom (rst hp rs) i ∧ r i = j
  let C : Ctx := ⟨callE W im, rst hp rs, r, G, none⟩
  have hi : GI P C fn.ntmps [] r ⟨fun t => args.getD t undef, rst hp rs, B, 0⟩ { tmps := args.map (ren r) ++ Array.replicate (fn.ntmps - (args.map (ren r)).size) undef, defers := [] } W := by
    refine ⟨⟨by simp; omega, fun t => ?_, hsat, hinjr, ⟨fun k => k < W.heap.size ∧ ¬ im k, [], ⟨fun _ => Iff.rfl, rfl, rfl, rfl, Nat.le_refl _, fun _ _ => rfl⟩, fun k hk => hk.1, fun i hi _ hS => hS.2 ⟨i, hi, rfl⟩, ⟨rfl, List.nodup_nil⟩, by simp⟩,
      fun i hi => ⟨hi, rfl⟩, fun k hk => ?_, hlow⟩, hfree, hB, hGF, fun y hy => by cases hy⟩
    · right
      dsimp only
      by_cases ht : t < args.size
      · have hm : args[t] ∈ args := Array.getElem_mem ht
        have e : args.getD t undef = args[t] := by simp [Array.getD, ht]
        rw [e]
        refine ⟨?_, ha _ hm⟩
        have : t < (args.map (ren r)).size := by simpa using ht
        simp [Array.getElem?_append_left this, ht]
      · have e : args.getD t undef = undef := by simp [Array.getElem?_eq_none (Nat.le_of_not_lt ht)]
        rw [e]
        refine ⟨?_, ids_undef _⟩
        rw [ren_undef]
        simp only [Array.getD_eq_getD_getElem?]
        rw [Array.getElem?_append_right (by simpa using Nat.le_of_not_lt ht), Array.getElem?_replicate]
        split <;> rfl
    · show rst hp rs k = G k
      simp [rst, hk, hG k hk]
  refine wpIn_mono (h C rfl rfl rfl r _ W hi) ?_
  rintro e a' W' ⟨s', r', ⟨he, hhp, v, ns, ρ, hRv, hρ0, hρ, hinj, hr, hns⟩, hi'⟩
  obtain ⟨S, ms, ⟨hS, os, tape, output, size, hsame⟩, hS1, hS2, ⟨hdef, hnd⟩, hms⟩ := hi'.ri.ext
  have hkeep : ∀ i, dom (rst hp rs) i → dom s'.hp i ∧ r' i = r i := hi'.ri.keep
  obtain ⟨_, hk100, _, hbl⟩ := hfit v ns hRv
  have mine : ∀ W'' : World, (∀ k, k ∉ ms → W''.heap[k]? = W'.heap[k]?) → ∀ i b, s'.hp i = some b → W''.heap[r' i]? = some (b.obj r') := fun W'' hW i b hb => by
    rw [hW _ (fun hm => hi'.ri.ne_mark (by unfold dom; rw [hb]; simp) (hms _ hm).1 rfl)]
    exact (hi'.ri.sat i b hb).1
  have hend : ∀ W'' : World, W''.heap.size = W'.heap.size → W''.os = W'.os → W''.tape = W'.tape → W''.output = W'.output → (∀ k, k ∉ ms → W''.heap[k]? = W'.heap[k]?) →
      LeavesIn (Fw P none) 0 P fn a'.tmps (fun e W' => ∃ v ns r', R v ns ∧ (∀ k, dom (rst hp rs) k → r' k = r k) ∧ e = .returned (ren r' v) ∧ Turn r' (extD (dom (rst hp rs)) ns) W W' [] ns) [] .returning W'' := fun W'' e1 e2 e3 e4 e5 => by
    have hsat' : Sat r' (dom s'.hp) s'.hp W'' := fun k b hk => ⟨mine W'' e5 k b hk, (hi'.ri.sat k b hk).2⟩
    have hrun := run_resG' (fn := fn) hi'.ri.rel hsat' hr
    rw [ren_comp] at hrun
    refine ⟨_, hrun, v, ns, fun k => r' (ρ k), hRv, fun k hk => by show r' (ρ k) = r k; rw [hρ0 k hk]; exact (hkeep k hk).2, rfl, ?_⟩
    refine ⟨e2.trans os, e3.trans tape, e4.trans output, by rw [e1]; exact size, fun k hk _ => ?_, fun p hp1 => ?_, fun p hp1 => ?_, fun p hp1 q hq1 hpq => ?_⟩
    · by_cases hk' : im k
      · obtain ⟨i, hi1, rfl⟩ := hk'
        cases hb : rst hp rs i with
        | none => exact absurd hb hi1
        | some b =>
          have e : s'.hp i = some b := (hhp i hi1).trans hb
          have := mine W'' e5 i b e
          rw [(hkeep i hi1).2, Blk.obj_congr (fun k hk => (hkeep k hk).2) (hcl i b hb)] at this
          rw [this, (hsat i b hb).1]
      · have hSk : S k := (hS k).2 ⟨hk, hk'⟩
        rw [e5 k (fun hm => (hms k hm).2.1 hSk)]
        exact hsame k hSk
    · have hp1 : p ∈ ns := by simpa using hp1
      refine ⟨?_, hbl p hp1⟩
      have := mine W'' e5 _ _ (hns p hp1)
      rw [Blk.rn_obj] at this
      exact this
    · have hd : dom s'.hp (ρ p.1) := by unfold dom; rw [hns p hp1]; simp
      have h1 := hS2 _ hd (hρ p hp1).2
      rw [hS] at h1
      refine Classical.byContradiction fun hlt => h1 ⟨by omega, fun ⟨i, hi1, e⟩ => ?_⟩
      have := hi'.ri.inj i (ρ p.1) (hkeep i hi1).1 hd ((hkeep i hi1).2.trans e)
      exact (hρ p hp1).1 (this ▸ hi1)
    · have hd : ∀ x ∈ ns, dom s'.hp (ρ x.1) := fun x hx => by unfold dom; rw [hns x hx]; simp
      exact hinj p hp1 q hq1 (hi'.ri.inj _ _ (hd p hp1) (hd q hq1) hpq)
  rcases he with rfl | rfl
  · show LeavesInM _ _ _ _ _ _ a'.defers _ _
    rw [hdef, List.append_nil]
    exact leavesM (by simp) ms W' hnd (fun D hD => (hms D hD).1) hend
  · show LeavesInM _ _ _ _ _ _ a'.defers _ _
    rw [hdef, List.append_nil]
    exact leavesM (by simp) ms W' hnd (fun D hD => (hms D hD).1) hend
end
section
variable {P : Program} {C : Ctx} {n : Nat} {d : List Deferred} {ro : Option Nat} {s : GS} {K : Exit → GS → Prop}
theorem step_callS {r : Nat → Nat} {ts : Nat → Value} {hp : Hp} {yc : Nat} {a : Act} {W : World} {mn : Nat} {o : Oper} {c : Call} {f : Operand} {g : FuncId} {cap : Array Value} {rs : List Nat} {R : Value → List (Nat × Blk) → Prop} {next : Act → World → Prop} {Q : Exit → Act → World → Prop}
    (hGF : GFlat C.G) (h : RI C n d r ts hp yc a W) (hd : ∀ dd, o.dst = some dd → dd < n)
    (ho : o.op = .call c) (hc : c.callee = .value f) (hf : okT ts f) (hgf : gev ts f = .func (.func g) #[] cap) (hcp : cap.all plain0 = true) (ha : ∀ x ∈ c.args.toList, okX ts hp x) (hr : FunS P C.G g (c.args.map (gev ts) ++ cap) hp rs R)
    (hfr : ∀ v ns, R v ns → ∀ k ∈ keys ns, hp k = none)
    (hn : ∀ v ns, R v ns → ∀ r' a' W', RI C n d r' (putT ts o.dst v) (updL hp ns) yc a' W' → next a' W') : o.wpIn (Fw P ro) mn P a W next Q := by
  have hR := h.rel
  have hS := h.sat
  have hlow := h.low
  have hD : ∀ k, dom (rst hp rs) k → dom hp k := fun k hk => by
    unfold dom at hk ⊢
    cases hb : rst hp rs k with
    | none => exact absurd hb hk
    | some b => rw [rst_sub hb]; simp
  have hRo : RelOn o r (dom hp) ts a := fun t _ => hR t
  have h1 := ev hRo (x := f) (by simp [ho, hc, Op.operands, Call.operands]) (okT_okX (hp := hp) hf) hlow (fun _ _ h => h)
  rw [hgf] at h1
  have h3 : a.eval f = .func (.func g) #[] (cap.map (ren0 r)) := by rw [h1.1]; simp [ren, renA, renF]
  have hargs : c.args.map a.eval = (c.args.map (gev ts)).map (ren r) := by
    rw [Array.map_map]
    exact Array.map_congr_left fun x hx => (ev hRo (x := x) (by simp [ho, Op.operands, Call.operands, hx]) (ha x (by simpa using hx)) hlow (fun _ _ h => h)).1
  have hrun : (execOp a.eval o).run P W = .ok (.enter g ((c.args.map (gev ts)).map (ren r) ++ cap.map (ren0 r))) W := by
    simp [execOp, ho, resolve, hc, h3, Deferred.ofValue, invoke, hargs, hr.enter]
  have hS' : Sat r (dom (rst hp rs)) (rst hp rs) W := fun k b hk => ⟨(hS k b (rst_sub hk)).1, hr.closed k b hk⟩
  have hS2 : Sat r (dom hp) (rst hp rs) W := fun k b hk => hS k b (rst_sub hk)
  have hcall := hr.run r W (gok_of hGF (fun k hk => h.glob k hk) hS2 hlow hD) hS' (fun k l hk hl => h.inj k l (hD k hk) (hD l hl)) (fun k hk hd => hlow k hk (hD k hd))
  have hcap : ∀ x ∈ cap, ren r x = ren0 r x := fun x hx => ren_plain0 (Array.all_eq_true_iff_forall_mem.1 hcp x hx)
  have e2 : (c.args.map (gev ts)).map (ren r) ++ cap.map (ren0 r) = (c.args.map (gev ts) ++ cap).map (ren r) := by
    rw [Array.map_append]; congr 1; exact Array.map_congr_left fun x hx => (hcap x hx).symm
  refine wp_of_upon (R := fun u W' => next (a.put o.dst u) W') (Rp := fun _ _ => False) (by rw [ho]; intro c; simp) ?_ (fun u W' h => h) (fun pv W' h => h.elim)
  unfold Upon
  rw [hrun]
  dsimp only
  rw [e2]
  refine hcall.mono fun e W'' he => ?_
  obtain ⟨v, ns, r1, hRv, hr1, rfl, ht⟩ := he
  obtain ⟨f1, f2, f3, f4⟩ := hr.fits v ns hRv
  have hfree := hfr v ns hRv
  let r2 : Nat → Nat := fun k => if k ∈ keys ns then r1 k else r k
  have e0 : ∀ k, k ∈ keys ns → r2 k = r1 k := fun k hk => by simp [r2, hk]
  have e1 : ∀ k, extD (dom (rst hp rs)) ns k → r2 k = r1 k := fun k hk => by
    by_cases hm : k ∈ keys ns
    · exact e0 k hm
    · simp only [r2, if_neg hm]; exact (hr1 k (hk.resolve_right hm)).symm
  have hmono : ∀ k, extD (dom (rst hp rs)) ns k → extD (dom hp) ns k := fun k hk => hk.imp (hD k) id
  have e3 : ∀ k, dom hp k → r2 k = r k := fun k hk => by simp only [r2, if_neg (fun h => hk (hfree k h))]
  have hv : ren r1 v = ren r2 v := (ren_congr e1 f1).symm
  show next (a.put o.dst (ren r1 v)) W''
  rw [hv]
  refine hn v ns hRv r2 _ _ ?_
  have := h.after (dst := o.dst) hd (e := ⟨v, [], [], ns, none, false⟩) e3 (idsV_mono hmono f1) ⟨ht.os, ht.tape, ht.output, ht.size, fun k hk _ => ht.same k hk (by simp), fun p hp1 => ?_, fun p hp1 => by rw [e0 _ (mem_keys.2 ⟨p, hp1, rfl⟩)]; exact ht.fresh p hp1,
    fun p hp1 q hq1 h => ht.apart p hp1 q hq1 (by rw [← e0 _ (mem_keys.2 ⟨p, hp1, rfl⟩), ← e0 _ (mem_keys.2 ⟨q, hq1, rfl⟩)]; exact h)⟩ (by simp [keys]) (fun k hk => ⟨hfree k hk, (f2 k hk).1⟩)
  · simpa using this
  · have hp1 : p ∈ ns := by simpa using hp1
    have hh := ht.has p (by simpa using hp1)
    rw [e0 _ (mem_keys.2 ⟨p, hp1, rfl⟩), Blk.obj_congr e1 hh.2]
    exact ⟨hh.1, Blk.ids_mono hmono hh.2⟩
end
end Go.Gy
namespace Go.Gy
open Go Go.RowKit
section
variable {P : Program} {C : Ctx} {n : Nat} {d : List Deferred} {ro : Option Nat} {s : GS} {K : Exit → GS → Prop}
/-- What is left of a region, l, from its place k on, does. -/
def GL (P : Program) (C : Ctx) (n : Nat) (d : List Deferred) (ro : Option Nat) (ops : Array Oper) (base k : Nat) (l : List Oper) (ts : Nat → Value) (hp : Hp) (yc : Nat) (K : Exit → GS → Prop) : Prop :=
  ∀ r a W, RI C n d r ts hp yc a W → (∀ x, base + 8 * k ≤ x → hp x = none) → 100 ≤ base → GFlat C.G → (∀ y, C.Y = some y → Rounds P C.G C.E y) → wpListIn (Fw P ro) 0 P ops (fun e a' W' => ∃ s' r', K e s' ∧ GI P C n d r' s' a' W') l a W
theorem GW_list {id : Nat} {l : List Oper} (h : GL P C n d ro l.toArray s.B 0 l s.ts s.hp s.yc K) : GW P C n d ro (.region id l.toArray false) s K := fun r a W hi =>
  wpIn_region_lit (h r a W hi.ri (by simpa using hi.free) hi.low hi.flat hi.rounds)
theorem GL_nil {ops : Array Oper} {base k : Nat} {ts : Nat → Value} {hp : Hp} {yc : Nat} (h : K .normal ⟨ts, hp, base + 8 * k, yc⟩) : GL P C n d ro ops base k [] ts hp yc K := fun r a W hi hf hb hG hR =>
  wpListIn_nil ⟨⟨ts, hp, _, yc⟩, r, h, hi, hf, by show 100 ≤ base + 8 * k; omega, hG, hR⟩
theorem GL_walk {l0 l : List Oper} {base k : Nat} {ts : Nat → Value} {hp : Hp} {yc : Nat} (j : Nat) (pn : List FuncId) (hl : l = l0.drop k) (hk : k ≤ l0.length) (hdst : (dstOk n (l.take j) && unOk P (l.take j)) = true)
    (h : ∀ q : (Nat → Value) → Hp → Tr → Nat → Prop, (∀ ts hp tr yc, GL P C n d ro l0.toArray base (k + (l.take j).length) (l.drop j) ts hp yc K → q ts hp tr yc) →
      lexS P C.G ⟨C.Y, pn, false⟩ base ⟨q, fun _ _ => False⟩ ((l0.take k).map (·.dst)).reverse k (l.take j) ts hp [] yc true false) : GL P C n d ro l0.toArray base k l ts hp yc K := by
  intro r a W hi hf hb hG hR
  simp only [Bool.and_eq_true] at hdst
  have e : l = l.take j ++ l.drop j := (List.take_append_drop j l).symm
  have ek : (l0.take k).length = k := by simp; omega
  have hh := h (fun ts hp _ yc => GL P C n d ro l0.toArray base (k + (l.take j).length) (l.drop j) ts hp yc K) (fun _ _ _ _ a => a)
  have hx : lexX P C.G ⟨C.Y, pn, false⟩ l0.toArray base (fun ts hp _ yc => GL P C n d ro l0.toArray base (k + (l.take j).length) (l.drop j) ts hp yc K) (fun _ _ => False) k (l.take j) ts hp [] yc true false := by
    refine lexX_of_lexS' (Q := ⟨_, fun _ _ => False⟩) (l.take j) _ k _ _ _ _ _ _ (fun i hi => ?_) (fun i hi => ?_) hh
    · rw [List.getElem?_reverse (by simp; omega)]
      simp only [List.length_map, ek, List.getElem?_map, List.getElem?_toArray]
      rw [show k - 1 - (k - 1 - i) = i by omega, List.getElem?_take, if_pos hi]
      cases l0[i]? <;> rfl
    · have hi' : i < j := by simp at hi; omega
      rw [List.getElem?_take, if_pos hi', hl, List.getElem?_drop]; simp
  rw [e]
  refine wpList_pre (l.drop j) (ops := l0.toArray) (base := base) (pn := pn) (Q := fun e a' W' => ∃ s' r', K e s' ∧ GI P C n d r' s' a' W') (Kn := fun ts hp yc => GL P C n d ro l0.toArray base (k + (l.take j).length) (l.drop j) ts hp yc K) (Kp := fun _ => False) (hp0 := hp) (ts0 := ts) (l0 := l.take j) hG hR hb (l.take j) k ts hp [] yc true false r a W
    (fun o ho => ⟨⟨dstOk_spec hdst.1 ho, unOk_spec hdst.2 o ho⟩, ho⟩) (fun _ _ => rfl) hi hf (by simp) (fun ts' hp' yc' r' a' W' hk' hi' hf' _ => hk' r' a' W' hi' hf' hb hG hR) (fun _ _ _ _ _ _ _ h => h.elim) hx
theorem GL_app {ops : Array Oper} {o : Oper} {post : List Oper} {base k : Nat} {ts : Nat → Value} {hp : Hp} {yc : Nat} (hg : o.guard = none) (hd : ∀ dd, o.dst = some dd → dd < n)
    (h : appX P o ts hp (base + 8 * k) fun ts' hp' => GL P C n d ro ops base (k + 1) post ts' hp' yc K) : GL P C n d ro ops base k (o :: post) ts hp yc K := by
  intro r a W hi hf hb hG hR
  obtain ⟨tx, ty, t, e, i, z, k', j, off2, sl, cap, m, m', b, b2, nw, ho, ht, hii, hz, hx, hk1, hb', hbT, hbf, hy, hb2, hnl, hnw, hb2f, h1, hzf, hc, hsl, hs1, hs2, hroom, hgrow⟩ := h
  refine wpListIn_plain hg fun K' hK' => ?_
  refine step_append hi hd ho ht hii hz hx hk1 hb' hbT hbf hy hb2 hnl hnw hb2f h1 hzf hc hsl hs1 hs2 (nk := base + 8 * k) ⟨hf _ (Nat.le_refl _), by omega⟩ (fun hr r'' a'' W'' hi'' => hK' _ _ (hroom hr r'' a'' W'' hi'' (fun x hx' => ?_) hb hG hR)) (fun hr cap' hc' r'' a'' W'' hi'' => hK' _ _ (hgrow hr cap' hc' r'' a'' W'' hi'' (fun x hx' => ?_) hb hG hR))
  · rw [upd_other _ _ (fun e => ?_)]
    · exact hf x (by omega)
    · subst e; rw [hf x (by omega)] at hb'; cases hb'
  · rw [upd_other _ _ (fun e => by omega)]
    exact hf x (by omega)
/-- What a call asks that hands back any of a kind. -/
theorem GL_callS {ops : Array Oper} {o : Oper} {post : List Oper} {base k : Nat} {ts : Nat → Value} {hp hp' : Hp} {yc : Nat} {c : Call} {f : Operand} {g : FuncId} {cap : Array Value} {rs : List Nat} {R : Value → List (Nat × Blk) → Prop} (hg : o.guard = none) (hd : ∀ dd, o.dst = some dd → dd < n)
    (ho : o.op = .call c) (hc : c.callee = .value f) (hf : okT ts f) (hgf : gev ts f = .func (.func g) #[] cap) (hcp : cap.all plain0 = true) (ha : ∀ x ∈ c.args.toList, okX ts hp x) {args : Array Value} (hargs : c.args.map (gev ts) ++ cap = args) (hr : FunS P C.G g args hp' rs R)
    (h1 : ∀ q ∈ rs, hp' q = hp q) (h2 : ∀ q, q < 100 → hp' q = hp q) (hat : ∀ v ns, R v ns → ∀ q ∈ keys ns, base + 8 * k ≤ q ∧ q < base + 8 * k + 8)
    (h : ∀ v ns, R v ns → GL P C n d ro ops base (k + 1) post (putT ts o.dst v) (updL hp ns) yc K) : GL P C n d ro ops base k (o :: post) ts hp yc K := by
  intro r a W hi hfr hb hG hR
  refine wpListIn_plain hg fun K' hK' => ?_
  refine step_callS hG hi hd ho hc hf hgf hcp ha (by rw [hargs]; exact hr.under fun q hq => hq.elim (h2 q) (h1 q)) (fun v ns hRv q hq => hfr q (hat v ns hRv q hq).1) (fun v ns hRv r' a' W' hi' => hK' _ _ (h v ns hRv r' a' W' hi' (fun x hx => ?_) hb hG hR))
  rw [updL_other (fun hm => by have := hat v ns hRv x hm; omega)]
  exact hfr x (by omega)
end
end Go.Gy
namespace Go.Gy
open Go Go.RowKit
section
variable {P : Program}
theorem run_append_zero (w : World) (t ty e : TypeId) (i : TypeInfo) (ht : P.underlying t = some (.slice e)) (hi : P.info? e = some i) (base q : Option Addr) (sl cap c : Nat) (h : sl ≤ cap) :
    (Builtin.append_ #[t, t] ty #[.slice base sl cap, .slice q 0 c]).run P w = .ok (.slice base sl cap) w := by
  have hf : (Builtin.firstCells i.size 0 (.slice q 0 c)).run P w = .ok #[] w := by
    cases q with
    | none => rfl
    | some a => exact run_firstCells_some (P := P) w i.size 0 a 0 c [] (by simp) (by simp)
  cases base with
  | none => simp [Builtin.append_, run_underlying ht, sizeOf, typeInfo, hi, Builtin.lenOf, h, hf]
  | some a => simp [Builtin.append_, run_underlying ht, sizeOf, typeInfo, hi, Builtin.lenOf, h, hf, storeCells]
theorem upon_app0 {o : Oper} {a : Act} {W : World} {R Rp : Value → World → Prop} {x y : Operand} {t e : TypeId} {i : TypeInfo} {z : Value} {base : Option Addr} {g2 off2 m m' : Nat} {nw : List Value}
    (ho : o.op = .call { callee := .builtin .append, args := #[x, y], argTypes := #[t, t] }) (ht : P.underlying t = some (.slice e)) (hi : P.info? e = some i) (hz : i.zero = some z)
    (hx : a.eval x = .slice base 0 0) (hy : a.eval y = .slice (some ⟨g2, off2, none⟩) m m') (hl : nw.length = m * i.size) (hn : ∀ j u, nw[j]? = some u → W.cell? ((⟨g2, off2, none⟩ : Addr).add j) = some u)
    (hm : 0 < m) (hb1 : m ≤ maxLen) (hb2 : m * i.bytes ≤ 140737488355328)
    (grow : ∀ cap', m ≤ cap' → R (.slice (some ⟨W.heap.size, 0, none⟩) m cap') (W.drew.alloc (.cells (nw.toArray ++ Builtin.zeroCells z.cells (cap' - m)) e))) : Upon P o a W R Rp := by
  unfold Upon
  cases base with
  | none =>
    have h := run_append_nil (P := P) W t o.type e i z ht hi hz ⟨g2, off2, none⟩ m m' nw hl hn hm (by simp only [maxLen] at hb1; omega) (by omega)
    simp only [execOp, ho, resolve, Sem.run_bind, Sem.run_pure, Result.andThen_ok, invoke, builtin, List.map_toArray, List.map_cons, List.map_nil, hx, hy, h]
    exact grow _ (grownCap_ge _ _ _ _)
  | some b =>
    have h := run_append_grow (P := P) W t o.type e i z ht hi hz b 0 0 [] (by simp) (by simp) ⟨g2, off2, none⟩ m m' nw hl hn (by omega) (by simp only [maxLen] at hb1; omega) (by simpa using growslice_fits (need := 0 + m) (old := 0) (by omega) (by simpa using hb2))
    simp only [Nat.zero_add] at h
    simp only [execOp, ho, resolve, Sem.run_bind, Sem.run_pure, Result.andThen_ok, invoke, builtin, List.map_toArray, List.map_cons, List.map_nil, hx, hy, h]
    have := grow _ (grownCap_ge W m 0 e)
    simpa using this
end
section
variable {P : Program} {C : Ctx} {n : Nat} {d : List Deferred} {ro : Option Nat} {s : GS} {K : Exit → GS → Prop}
/-- An append to nothing: a new row. -/
theorem GL_app0 {ops : Array Oper} {o : Oper} {post : List Oper} {base k : Nat} {ts : Nat → Value} {hp : Hp} {yc : Nat} {tx ty : Tmp} {t e : TypeId} {sz by' : Nat} {z : Value} {p : Option Addr} {j off2 m m' : Nat} {b2 : Blk} {nw : List Value} (hg : o.guard = none) (hd : ∀ dd, o.dst = some dd → dd < n)
    (ho : o.op = .call { callee := .builtin .append, args := #[.tmp tx, .tmp ty], argTypes := #[t, t] }) (ht : P.underlying t = some (.slice e)) (hs : tySize P e = some sz) (hz : tyZero P e = some z) (hby : tyBytes P e = some by')
    (hx : ts tx = .slice p 0 0) (hy : ts ty = .slice (some ⟨j, off2, none⟩) m m') (hb2 : hp j = some b2) (hnw : ∀ q u, nw[q]? = some u → b2.c[off2 + q]? = some u) (hb2f : ∀ x ∈ nw, flatF x = true) (hzf : ∀ q, ∀ x ∈ Builtin.zeroCells z.cells q, flatF x = true)
    (hm0 : 0 < m) (hm : m * sz = nw.length) (hs1 : m ≤ maxLen) (hs2 : m * by' ≤ 140737488355328)
    (grow : ∀ cap', m ≤ cap' → GL P C n d ro ops base (k + 1) post (putT ts o.dst (.slice (some ⟨base + 8 * k, 0, none⟩) m cap')) (upd hp (base + 8 * k) (some ⟨(nw ++ (Builtin.zeroCells z.cells (cap' - m)).toList).toArray, .ty e⟩)) yc K) : GL P C n d ro ops base k (o :: post) ts hp yc K := by
  intro r a W hi hf hb hG hR
  unfold tySize at hs; unfold tyZero at hz; unfold tyBytes at hby
  cases hii : P.info? e with
  | none => rw [hii] at hs; cases hs
  | some i =>
    rw [hii] at hs hz hby
    simp only [Option.map_some, Option.some.injEq, Option.bind_some] at hs hz hby
    subst hs; subst hby
    refine wpListIn_plain hg fun K' hK' => ?_
    have ex : ∃ p', a.eval (.tmp tx) = .slice p' 0 0 := by
      have := (hi.rel tx).resolve_left (by rw [hx]; simp [junk])
      rw [hx] at this
      cases p with
      | none => exact ⟨none, this.1⟩
      | some q => exact ⟨_, this.1⟩
    obtain ⟨p', ex⟩ := ex
    have ey : a.eval (.tmp ty) = .slice (some ⟨r j, off2, none⟩) m m' := by
      have := (hi.rel ty).resolve_left (by rw [hy]; simp [junk])
      rw [hy] at this
      exact this.1
    have hn : ∀ q u, nw[q]? = some u → W.cell? ((⟨r j, off2, none⟩ : Addr).add q) = some u := fun q u hq => by
      rw [Addr.add_lit]
      exact cell_obj (hi.sat j b2 hb2).1 (hnw q u hq) (hb2f u (List.mem_of_getElem? hq))
    have hnk : hp (base + 8 * k) = none := hf _ (Nat.le_refl _)
    refine wp_of_upon (by rw [ho]; intro c; simp) (upon_app0 (R := fun u W' => wpListIn (Fw P ro) 0 P ops _ post (a.put o.dst u) W') (Rp := fun _ _ => False) ho ht hii hz ex ey hm.symm hn hm0 hs1 hs2 (fun cap' hcap => ?_)) (fun u W' h => hK' _ _ h) (fun pv W' h => h.elim)
    have hff : ∀ x ∈ (nw ++ (Builtin.zeroCells z.cells (cap' - m)).toList).toArray, flatF x = true := fun x hx => by
      simp only [List.mem_toArray, List.mem_append] at hx
      rcases hx with hx | hx
      · exact hb2f x hx
      · exact hzf _ x (by simpa using hx)
    have hnd : ¬ dom hp (base + 8 * k) := by unfold dom; simp [hnk]
    have hr' : ∀ q, dom hp q → upd r (base + 8 * k) W.heap.size q = r q := fun q hq => upd_other _ _ (fun e => hnd (e ▸ hq))
    have hv : (Value.slice (some ⟨W.heap.size, 0, none⟩) m cap') = ren (upd r (base + 8 * k) W.heap.size) (.slice (some ⟨base + 8 * k, 0, none⟩) m cap') := by simp [ren, renA, renF, ren0, upd_same]
    have ec : nw.toArray ++ Builtin.zeroCells z.cells (cap' - m) = (nw ++ (Builtin.zeroCells z.cells (cap' - m)).toList).toArray := by
      rw [← List.append_toArray, Array.toArray_toList]
    rw [hv, ec]
    refine grow cap' hcap (upd r (base + 8 * k) W.heap.size) _ _ (hi.drew.after (e := ⟨.slice (some ⟨base + 8 * k, 0, none⟩) m cap', [], [], [(base + 8 * k, ⟨_, .ty e⟩)], none, false⟩) hd hr' (by simp [idsV, idsA, idsF, ids0, extD, keys]) ⟨rfl, rfl, rfl, (by show W.heap.size ≤ (W.heap.push _).size; simp), fun q hq _ => ?_, fun p hp1 => ?_, fun p hp1 => ?_, by simp⟩ (by simp [keys]) (by simp [keys, hnk]; omega)) (fun x hx' => ?_) hb hG hR
    · exact Below.heap_alloc _ _ _ hq
    · simp only [List.nil_append, List.mem_singleton] at hp1
      subst hp1
      refine ⟨?_, Blk.flat_ids hff⟩
      rw [Blk.obj_flat hff]
      show (W.drew.alloc _).heap[upd r (base + 8 * k) W.heap.size (base + 8 * k)]? = _
      rw [upd_same]
      exact heap_alloc_new W.drew _
    · simp only [List.mem_singleton] at hp1
      subst hp1
      show W.heap.size ≤ upd r (base + 8 * k) W.heap.size (base + 8 * k)
      rw [upd_same]
      exact Nat.le_refl _
    · rw [upd_other _ _ (fun e => by omega)]
      exact hf x (by omega)
/-- An append of nothing. -/
theorem GL_appZ {ops : Array Oper} {o : Oper} {post : List Oper} {base k : Nat} {ts : Nat → Value} {hp : Hp} {yc : Nat} {tx ty : Tmp} {t e : TypeId} {sz : Nat} {p q : Option (Nat × Nat)} {sl cap c : Nat} (hg : o.guard = none) (hd : ∀ dd, o.dst = some dd → dd < n)
    (ho : o.op = .call { callee := .builtin .append, args := #[.tmp tx, .tmp ty], argTypes := #[t, t] }) (ht : P.underlying t = some (.slice e)) (hs : tySize P e = some sz)
    (hx : ts tx = .slice (p.map fun p => ⟨p.1, p.2, none⟩) sl cap) (hy : ts ty = .slice (q.map fun p => ⟨p.1, p.2, none⟩) 0 c) (hsl : sl ≤ cap)
    (h : GL P C n d ro ops base (k + 1) post (putT ts o.dst (ts tx)) hp yc K) : GL P C n d ro ops base k (o :: post) ts hp yc K := by
  intro r a W hi hf hb hG hR
  unfold tySize at hs
  cases hii : P.info? e with
  | none => rw [hii] at hs; cases hs
  | some i =>
    refine wpListIn_plain hg fun K' hK' => ?_
    have hjx : ts tx ≠ junk := by rw [hx]; simp [junk]
    have ex0 := (hi.rel tx).resolve_left hjx
    have ex : ∃ p', a.eval (.tmp tx) = .slice p' sl cap := by
      have := ex0.1
      rw [hx] at this
      cases p with
      | none => exact ⟨none, this⟩
      | some q => exact ⟨_, this⟩
    have ey : ∃ p', a.eval (.tmp ty) = .slice p' 0 c := by
      have := (hi.rel ty).resolve_left (by rw [hy]; simp [junk])
      rw [hy] at this
      cases q with
      | none => exact ⟨none, this.1⟩
      | some q => exact ⟨_, this.1⟩
    obtain ⟨p', ex⟩ := ex
    obtain ⟨q', ey⟩ := ey
    have hrun := run_append_zero (P := P) W t o.type e i ht hii p' q' sl cap c hsl
    have hev : a.eval (.tmp tx) = ren r (ts tx) := ex0.1
    refine wp_of_upon (by rw [ho]; intro c; simp) (R := fun u W' => u = ren r (ts tx) ∧ W' = W) (Rp := fun _ _ => False) ?_ (fun u W' h' => ?_) (fun pv W' h => h.elim)
    · unfold Upon
      simp only [execOp, ho, resolve, Sem.run_bind, Sem.run_pure, Result.andThen_ok, invoke, builtin, List.map_toArray, List.map_cons, List.map_nil, ex, ey, hrun]
      rw [← ex, hev]; exact ⟨rfl, trivial⟩
    · obtain ⟨rfl, rfl⟩ := h'
      refine hK' _ _ (h r _ _ ?_ (fun x hx' => hf x (by omega)) hb hG hR)
      have := hi.after (dst := o.dst) hd (e := ⟨ts tx, [], [], [], none, false⟩) (r' := r) (fun _ _ => rfl) (by rw [extD_nil]; exact ex0.2) ⟨rfl, rfl, rfl, Nat.le_refl _, fun _ _ _ => rfl, by simp, by simp, by simp⟩ (by simp [keys]) (by simp [keys])
      simpa using this
end
end Go.Gy
