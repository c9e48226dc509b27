/-
  Contracts of math/bits.Mul64, wide.Mul.
  Conditions: none.
-/
import Derived.Test.YtggidgaeggekhaaDoorGyL2
namespace Go.Gy
set_option linter.unusedSimpArgs false
set_option linter.unusedVariables false
open Go Go.RowKit Go.Proofs
@[simp] theorem idsV_fa (D : Nat → Prop) (n : Nat) (k : IntKind) (f : Nat → Int) : idsV D (.agg (fa n k f)) ↔ True := by
  refine ⟨fun _ => trivial, fun _ x hx => ?_⟩
  obtain ⟨m, rfl⟩ := fa_mem hx
  trivial
theorem and_low (z : Int) (h0 : 0 ≤ z) (h1 : z < 18446744073709551616) : bitI .and .u64 z 4294967295 = z % 4294967296 := by
  rw [← and_low32 z h0 h1]; rfl
theorem mul64_ret (x y : Int) (hx0 : 0 ≤ x) (hx : x < 18446744073709551616) (hy0 : 0 ≤ y) (hy : y < 18446744073709551616) : Ret Tryd.prog G0 102 #[.int .u64 x, .int .u64 y] (.tuple #[.int .u64 (x * y / 18446744073709551616), .int .u64 (x * y % 18446744073709551616)]) := by
  refine ret_of G0F Tryd.func102 rfl Tryd.call102 (by simp) (by simp) (by simp [Tryd.ntmps102]) ?_
  intro C hC hC0 hY
  have f32 : ∀ z : Int, z.fdiv 4294967296 = z / 4294967296 := fun z => Int.fdiv_eq_ediv_of_nonneg z (by omega)
  have a1 := and_low x hx0 hx
  have a2 := and_low y hy0 hy
  have a3 : ∀ z : Int, bitI .and .u64 (z % 18446744073709551616) 4294967295 = z % 18446744073709551616 % 4294967296 := fun z => and_low _ (by omega) (by omega)
  repeat' (first
    | refine GW_seq ?_
    | simp only [List.length_cons, List.length_nil, Nat.reduceAdd, Nat.reduceMul, thenG_normal, thenG_ret, thenG_exit, thenG_goto, thenG_panic, blockG_normal, blockG_ret, blockG_goto, blockG_panic, jumpG_normal, jumpG_ret, jumpG_exit, jumpG_panic]
    | (refine GW_region' [] (by kernel_rfl) ?_; intro Q hQ hP; simp [hC, hY, f32, a1, a2, a3]; (first | refine hQ _ _ _ _ ?_ | refine hP _ _ (fun _ => ?_)); clear hQ hP Q)
    | (refine GW_draw' [] follows (by kernel_rfl) (by kernel_rfl) ?_; intro Q hQ hP; simp [hC, hY, f32, a1, a2, a3]; (first | refine hQ _ _ _ _ (by kernel_rfl) ?_ | refine hP _ _ (by kernel_rfl) (fun _ => ?_)); clear hQ hP Q)
    | refine GW_block ?_
    | refine GW_ret ?_
    | refine GW_skip ?_
    | refine GW_exit ?_
    | refine GW_goto ?_
    | refine GW_label ?_
    | simp only [blockG_exit]
    | (refine GW_cond (by simp; rfl) ?_ ?_ <;> (intro hb; first | (exfalso; exact absurd hb (by decide)) | skip)))
  refine ⟨.inr trivial, ?_⟩
  have := mul64_arith x y hx0 hx hy0 hy
  simpa [Tryd.results102] using this
@[simp] theorem mul64 (x y : Int) (hx0 : 0 ≤ x) (hx : x < 18446744073709551616) (hy0 : 0 ≤ y) (hy : y < 18446744073709551616) (K : Value → Prop) : callK Tryd.prog G0 102 #[.int .u64 x, .int .u64 y] K ↔ K (.tuple #[.int .u64 (x * y / 18446744073709551616), .int .u64 (x * y % 18446744073709551616)]) := callK_iff G0W (by kernel_rfl) (mul64_ret x y hx0 hx hy0 hy)
theorem wi_mod (z y : Int) (k : Nat) (h : z % 115792089237316195423570985008687907853269984665640564039457584007913129639936 = y % 115792089237316195423570985008687907853269984665640564039457584007913129639936) (hk : k < 4) : wi z k = wi y k := by
  have : k = 0 ∨ k = 1 ∨ k = 2 ∨ k = 3 := by omega
  rcases this with rfl | rfl | rfl | rfl <;> simp only [wi] <;> omega
theorem wum_p (z : Int) (h : ng z = true) (k : Nat) (hk : k < 4) : wi (-z) k = wi (um z) k := wi_mod _ _ _ (by
  rw [ng_sz] at h; simp at h; have := sz_mod z; unfold um; rw [if_pos h]; omega) hk
theorem wum_m (z : Int) (h : ng z = false) (k : Nat) (hk : k < 4) : wi z k = wi (um z) k := wi_mod _ _ _ (by
  rw [ng_sz] at h; simp at h; have := sz_mod z; unfold um; rw [if_neg (by omega)]; omega) hk
theorem wn_bd (A B : Int) (i k : Nat) : 0 ≤ wi A i * wi B k ∧ 0 ≤ wi A i * wi B k % 18446744073709551616 ∧ 0 ≤ (wi A i * wi B k + wi (wprow A B i) (i + k)) % 18446744073709551616 := by
  have h1 := wi_ge A i; have h2 := wi_ge B k
  exact ⟨Int.mul_nonneg h1 h2, Int.emod_nonneg _ (by omega), Int.emod_nonneg _ (by omega)⟩
theorem wmodS (A B : Int) (i k : Nat) : (wi A i * wi B k + wi (wprow A B i) (i + k) + wpcar A B i k) % 18446744073709551616 = wi (wprow A B (i + 1)) (i + k) := by
  rw [← wpdig A B i k]; congr 1; omega
theorem wdivS (A B : Int) (i k : Nat) : (wi A i * wi B k / 18446744073709551616 + (wi A i * wi B k % 18446744073709551616 + wi (wprow A B i) (i + k)) / 18446744073709551616 + ((wi A i * wi B k + wi (wprow A B i) (i + k)) % 18446744073709551616 + wpcar A B i k) / 18446744073709551616) % 18446744073709551616 = wpcar A B i (k + 1) := by
  have h := (wstep (wi A i) (wi B k) (wi (wprow A B i) (i + k)) (wpcar A B i k) ⟨wi_ge _ _, wi_lt _ _⟩ ⟨wi_ge _ _, wi_lt _ _⟩ ⟨wi_ge _ _, wi_lt _ _⟩ (wpcar_bd A B i k)).2
  rw [← wpcar_succ, ← h]
  simp
def mwSt (q : Nat) (mi : Bool) (A B : Int) (i : Nat) : GS :=
  ⟨tsL [(2, .pointer (some ⟨200, 0, none⟩)), (3, .pointer (some ⟨208, 0, none⟩)), (4, .pointer (some ⟨216, 0, none⟩)), (6, .bool mi), (7, .pointer (some ⟨q, 0, none⟩)), (40, .agg (fa 4 .u64 (wi A))), (41, .int .i64 i)],
   hpL G0 [(200, ⟨fa 4 .u64 (wi A), 24⟩), (208, ⟨fa 4 .u64 (wi B), 24⟩), (216, ⟨fa 4 .u64 fun _ => 0, 24⟩), (q, ⟨fa 8 .u64 (wi (wprow A B i)), 60⟩)], 600, 0⟩
def mwSt2 (q : Nat) (mi : Bool) (A B : Int) (i k : Nat) : GS :=
  ⟨tsL [(2, .pointer (some ⟨200, 0, none⟩)), (3, .pointer (some ⟨208, 0, none⟩)), (4, .pointer (some ⟨216, 0, none⟩)), (6, .bool mi), (7, .pointer (some ⟨q, 0, none⟩)), (40, .agg (fa 4 .u64 (wi A))), (41, .int .i64 i),
      (8, .int .i64 i), (9, .int .u64 (wi A i)), (10, .int .u64 (wpcar A B i k)), (45, .agg (fa 4 .u64 (wi B))), (46, .int .i64 k)],
   hpL G0 [(200, ⟨fa 4 .u64 (wi A), 24⟩), (208, ⟨fa 4 .u64 (wi B), 24⟩), (216, ⟨fa 4 .u64 fun _ => 0, 24⟩), (q, ⟨fa 8 .u64 (wpout A B i k), 60⟩)], 600, 0⟩
theorem or_zero {x y : Int} (hx0 : 0 ≤ x) (hx : x < 18446744073709551616) (hy0 : 0 ≤ y) (hy : y < 18446744073709551616) : (bitI .or .u64 x y = 0 ↔ x = 0 ∧ y = 0) ∧ 0 ≤ bitI .or .u64 x y ∧ bitI .or .u64 x y < 18446744073709551616 := by
  have e : bitI .or .u64 x y = ((BitVec.ofInt 64 x ||| BitVec.ofInt 64 y : BitVec 64).toNat : Int) % 18446744073709551616 := by
    unfold bitI
    show IntKind.u64.wrap ((BitVec.ofInt 64 x ||| BitVec.ofInt 64 y : BitVec 64).toNat : Int) = _
    rw [wrap_u64]
  have hx' : (BitVec.ofInt 64 x).toNat = x.toNat := by
    rw [BitVec.toNat_ofInt]; congr 1; exact Int.emod_eq_of_lt hx0 hx
  have hy' : (BitVec.ofInt 64 y).toNat = y.toNat := by
    rw [BitVec.toNat_ofInt]; congr 1; exact Int.emod_eq_of_lt hy0 hy
  have hb := (BitVec.ofInt 64 x ||| BitVec.ofInt 64 y).isLt
  rw [e]
  refine ⟨?_, Int.emod_nonneg _ (by omega), Int.emod_lt_of_pos _ (by omega)⟩
  rw [Int.emod_eq_of_lt (by omega) (by omega), BitVec.toNat_or, hx', hy']
  constructor
  · intro h
    have h1 : x.toNat ||| y.toNat = 0 := by omega
    have := Nat.or_eq_zero_iff.1 h1
    omega
  · rintro ⟨rfl, rfl⟩; rfl
theorem wi_shift (D : Int) (j : Nat) (h : 4 ≤ j := by omega) : wi D j = wi (D / 115792089237316195423570985008687907853269984665640564039457584007913129639936) (j - 4) := by
  unfold wi
  have e : 64 * j = 64 * 4 + 64 * (j - 4) := by omega
  rw [e, Int.pow_add, ← Int.ediv_ediv_of_nonneg (Int.le_of_lt (pow64_pos 4))]
  rfl
def ovD (D : Int) : Bool := decide (115792089237316195423570985008687907853269984665640564039457584007913129639936 ≤ D)
def orW (D : Int) : Int := bitI .or .u64 (bitI .or .u64 (bitI .or .u64 (wi D 4) (wi D 5)) (wi D 6)) (wi D 7)
theorem or_ov (D : Int) (h0 : 0 ≤ D) (h1 : D < 115792089237316195423570985008687907853269984665640564039457584007913129639936 * 115792089237316195423570985008687907853269984665640564039457584007913129639936) :
    (!orW D == 0) = ovD D := by
  unfold orW
  have o1 := or_zero (wi_ge D 4) (wi_lt D 4) (wi_ge D 5) (wi_lt D 5)
  have o2 := or_zero o1.2.1 o1.2.2 (wi_ge D 6) (wi_lt D 6)
  have o3 := or_zero o2.2.1 o2.2.2 (wi_ge D 7) (wi_lt D 7)
  rw [Bool.eq_iff_iff]
  simp only [Bool.not_eq_true', beq_eq_false_iff_ne, ne_eq, ovD, decide_eq_true_eq]
  rw [o3.1, o2.1, o1.1, wi_shift D 4, wi_shift D 5, wi_shift D 6, wi_shift D 7]
  have hE : 0 ≤ D / 115792089237316195423570985008687907853269984665640564039457584007913129639936 ∧ D / 115792089237316195423570985008687907853269984665640564039457584007913129639936 < 115792089237316195423570985008687907853269984665640564039457584007913129639936 := ⟨by omega, by omega⟩
  have hD : 115792089237316195423570985008687907853269984665640564039457584007913129639936 ≤ D ↔ D / 115792089237316195423570985008687907853269984665640564039457584007913129639936 ≠ 0 := by omega
  rw [hD]
  generalize D / 115792089237316195423570985008687907853269984665640564039457584007913129639936 = E at *
  simp only [wi]
  omega
set_option maxHeartbeats 2000000 in
theorem wmul_ret (a b : Int) : Ret Tryd.prog G0 87 #[wd a, wd b] (.tuple #[wd (sz a * sz b), .bool (mulO a b)]) := by
  refine ret_of G0F Tryd.func87 rfl Tryd.call87 (by simp) (by simp) (by simp [Tryd.ntmps87]) ?_
  intro C hC hC0 hY
  have hA := um_bd a
  have hB := um_bd b
  have hB0 : 0 ≤ um b := hB.1
  have hB1 : um b < 2 ^ (64 * 4) := by have := hB.2; omega
  obtain ⟨D, hD⟩ : ∃ D, um a * um b = D := ⟨_, rfl⟩
  have eD : wprow (um a) (um b) 4 = D := by rw [← hD]; unfold wprow; rw [Int.emod_eq_of_lt (by omega) (by omega)]
  have hbd : 0 ≤ D ∧ D ≤ 57896044618658097711785492504343953926634992332820282019728792003956564819968 * 57896044618658097711785492504343953926634992332820282019728792003956564819968 := by
    rw [← hD]
    exact ⟨Int.mul_nonneg hA.1 hB.1, Int.mul_le_mul hA.2 hB.2 hB.1 (by omega)⟩
  have hor := or_ov D hbd.1 (by have := hbd.2; omega)
  have hs1 := prod_same a b
  have hs2 := prod_other a b
  rw [hD] at hs1 hs2
  cases ha : ng a <;> cases hq : ng b
  all_goals
    repeat' (first
      | refine GW_seq ?_
      | simp only [List.length_cons, List.length_nil, Nat.reduceAdd, Nat.reduceMul, thenG_normal, thenG_ret, thenG_exit, thenG_goto, thenG_panic, blockG_normal, blockG_ret, blockG_goto, blockG_panic, jumpG_normal, jumpG_ret, jumpG_exit, jumpG_panic]
      | (refine GW_region' [] (by kernel_rfl) ?_; intro Q hQ hP; simp [hC, hY, ha, hq]; (first | refine hQ _ _ _ _ ?_ | refine hP _ _ (fun _ => ?_)); clear hQ hP Q)
      | (refine GW_draw' [] follows (by kernel_rfl) (by kernel_rfl) ?_; intro Q hQ hP; simp [hC, hY, ha, hq]; (first | refine hQ _ _ _ _ (by kernel_rfl) ?_ | refine hP _ _ (by kernel_rfl) (fun _ => ?_)); clear hQ hP Q)
      | refine GW_block ?_
      | refine GW_ret ?_
      | refine GW_skip ?_
      | refine GW_exit ?_
      | refine GW_goto ?_
      | refine GW_label ?_
      | simp only [blockG_exit]
      | (refine GW_cond (by simp; rfl) ?_ ?_ <;> (intro hb; first | (exfalso; exact absurd hb (by decide)) | skip)))
  · have hn : (ng a == ng b) = true := by rw [ha, hq]; rfl
    refine GW_for 4 (mwSt 312 false (um a) (um b)) ?_ ?_ ?_
    · have e1 := wum_m a ha
      have e2 := wum_m b hq
      refine weakL _ 600 hC G0F (m0 := []) hC0 (by omega) ?_ ?_ ?_
      · simp [dom, fa_4, e1]
      · simp [fa_ids, fa_4, fa_8, e1, e2, wprow, Int.emod_one, wi_zero]
      · simp
    · intro i hi
      have hi' : (i : Int) < 4 := by omega
      have hz : (0 : Int) ≤ i := by omega
      have hs : Int.bmod ((i : Int) + 1) 18446744073709551616 = ((i + 1 : Nat) : Int) := by rw [bm (by omega) (by omega)]; rfl
      unfold mwSt
      repeat' (first
        | refine GW_seq ?_
        | simp only [List.length_cons, List.length_nil, Nat.reduceAdd, Nat.reduceMul, thenG_normal, thenG_ret, thenG_exit, thenG_goto, thenG_panic, blockG_normal, blockG_ret, blockG_goto, blockG_panic, jumpG_normal, jumpG_ret, jumpG_exit, jumpG_panic]
        | (refine GW_region' [] (by kernel_rfl) ?_; intro Q hQ hP; simp [hC, hY, hi, hi', hz, hs, fa_get]; (first | refine hQ _ _ _ _ ?_ | refine hP _ _ (fun _ => ?_)); clear hQ hP Q)
        | (refine GW_draw' [] follows (by kernel_rfl) (by kernel_rfl) ?_; intro Q hQ hP; simp [hC, hY, hi, hi', hz, hs, fa_get]; (first | refine hQ _ _ _ _ (by kernel_rfl) ?_ | refine hP _ _ (by kernel_rfl) (fun _ => ?_)); clear hQ hP Q)
        | refine GW_block ?_
        | refine GW_ret ?_
        | refine GW_skip ?_
        | refine GW_exit ?_
        | refine GW_goto ?_
        | refine GW_label ?_
        | simp only [blockG_exit]
        | (refine GW_cond (by simp; rfl) ?_ ?_ <;> (intro hb; first | (exfalso; exact absurd hb (by decide)) | skip)))
      refine GW_for 4 (mwSt2 312 false (um a) (um b) i) ?_ ?_ ?_
      · refine weakL _ 600 hC G0F (m0 := []) hC0 (by omega) ?_ ?_ ?_
        · simp [dom, wpcar_zero]
        · have e : fa 8 .u64 (wpout (um a) (um b) i 0) = fa 8 .u64 (wi (wprow (um a) (um b) i)) := fa_congr fun j _ => by unfold wpout; rw [if_neg (by omega)]
          simp [e, fa_ids]
        · simp
      · intro k hk
        have hk' : (k : Int) < 4 := by omega
        have hkz : (0 : Int) ≤ k := by omega
        have hs2 : Int.bmod ((k : Int) + 1) 18446744073709551616 = ((k + 1 : Nat) : Int) := by rw [bm (by omega) (by omega)]; rfl
        have hik : Int.bmod ((i : Int) + k) 18446744073709551616 = ((i + k : Nat) : Int) := by rw [bm (by omega) (by omega)]; rfl
        have hik2 : i + k < 8 := by omega
        have hik3 : (i : Int) + k < 8 := by omega
        have hik4 : (0 : Int) ≤ (i : Int) + k := by omega
        have hik5 : ((i : Int) + k).toNat = i + k := by omega
        have hik6 : (i : Int) + k ≤ 7 := by omega
        have hik7 : i + k ≤ 7 := by omega
        have hn := wn_bd (um a) (um b) i k
        have hc := wpcar_bd (um a) (um b) i k
        unfold mwSt2
        repeat' (first
          | refine GW_seq ?_
          | simp only [List.length_cons, List.length_nil, Nat.reduceAdd, Nat.reduceMul, thenG_normal, thenG_ret, thenG_exit, thenG_goto, thenG_panic, blockG_normal, blockG_ret, blockG_goto, blockG_panic, jumpG_normal, jumpG_ret, jumpG_exit, jumpG_panic]
          | (refine GW_region' [] (by kernel_rfl) ?_; intro Q hQ hP; simp [hC, hY, hi, hi', hz, hk, hk', hkz, hik, hik2, hik3, hik4, hik5, hik6, hik7, hs2, fa_get, fa_set, wi_ge, wi_lt, hn.1, hn.2.1, hn.2.2, hc.1]; (first | refine hQ _ _ _ _ ?_ | refine hP _ _ (fun _ => ?_)); clear hQ hP Q)
          | (refine GW_draw' [] follows (by kernel_rfl) (by kernel_rfl) ?_; intro Q hQ hP; simp [hC, hY, hi, hi', hz, hk, hk', hkz, hik, hik2, hik3, hik4, hik5, hik6, hik7, hs2, fa_get, fa_set, wi_ge, wi_lt, hn.1, hn.2.1, hn.2.2, hc.1]; (first | refine hQ _ _ _ _ (by kernel_rfl) ?_ | refine hP _ _ (by kernel_rfl) (fun _ => ?_)); clear hQ hP Q)
          | refine GW_block ?_
          | refine GW_ret ?_
          | refine GW_skip ?_
          | refine GW_exit ?_
          | refine GW_goto ?_
          | refine GW_label ?_
          | simp only [blockG_exit]
          | (refine GW_cond (by simp; rfl) ?_ ?_ <;> (intro hb; first | (exfalso; exact absurd hb (by decide)) | skip)))
        refine weakL _ 600 hC G0F (m0 := []) hC0 (by omega) ?_ ?_ ?_
        · simp [dom, hs2, wdivS]
        · have e : fa 8 .u64 (upd (wpout (um a) (um b) i k) (i + k) (wi (wprow (um a) (um b) (i + 1)) (i + k))) = fa 8 .u64 (wpout (um a) (um b) i (k + 1)) := fa_congr fun j _ => wpout_step (um a) (um b) i k j
          simp [fa_ids, wmodS, e]
        · simp
      · have hi8 : Int.bmod ((i : Int) + 4) 18446744073709551616 = (i : Int) + 4 := bm (by omega) (by omega)
        have hi9 : (0 : Int) ≤ (i : Int) + 4 := by omega
        have hi10 : ((i : Int) + 4).toNat = i + 4 := by omega
        have hi11 : (i : Int) + 4 < 8 := by omega
        have hi12 : (i : Int) ≤ 3 := by omega
        have hi14 : i ≤ 3 := by omega
        have hi13 : i + 4 < 8 := by omega
        unfold mwSt2
        repeat' (first
          | refine GW_seq ?_
          | simp only [List.length_cons, List.length_nil, Nat.reduceAdd, Nat.reduceMul, thenG_normal, thenG_ret, thenG_exit, thenG_goto, thenG_panic, blockG_normal, blockG_ret, blockG_goto, blockG_panic, jumpG_normal, jumpG_ret, jumpG_exit, jumpG_panic]
          | (refine GW_region' [] (by kernel_rfl) ?_; intro Q hQ hP; simp [hC, hY, hi, hi', hz, hs, hi8, hi9, hi10, hi11, hi12, hi13, hi14, fa_set]; (first | refine hQ _ _ _ _ ?_ | refine hP _ _ (fun _ => ?_)); clear hQ hP Q)
          | (refine GW_draw' [] follows (by kernel_rfl) (by kernel_rfl) ?_; intro Q hQ hP; simp [hC, hY, hi, hi', hz, hs, hi8, hi9, hi10, hi11, hi12, hi13, hi14, fa_set]; (first | refine hQ _ _ _ _ (by kernel_rfl) ?_ | refine hP _ _ (by kernel_rfl) (fun _ => ?_)); clear hQ hP Q)
          | refine GW_block ?_
          | refine GW_ret ?_
          | refine GW_skip ?_
          | refine GW_exit ?_
          | refine GW_goto ?_
          | refine GW_label ?_
          | simp only [blockG_exit]
          | (refine GW_cond (by simp; rfl) ?_ ?_ <;> (intro hb; first | (exfalso; exact absurd hb (by decide)) | skip)))
        refine weakL _ 600 hC G0F (m0 := []) hC0 (by omega) ?_ ?_ ?_
        · simp [dom, hs]
        · have e : fa 8 .u64 (upd (wpout (um a) (um b) i 4) (i + 4) (wpcar (um a) (um b) i 4)) = fa 8 .u64 (wi (wprow (um a) (um b) (i + 1))) := fa_congr fun j _ => wpout_end (um a) (um b) i hB0 hB1 j
          simp [fa_ids, e]
        · simp
    · unfold mwSt
      rw [eD]
      by_cases hx : orW D = 0
      · have hov : ovD D = false := by rw [← hor]; simp [hx]
        unfold orW at hx
        repeat' (first
          | refine GW_seq ?_
          | simp only [List.length_cons, List.length_nil, Nat.reduceAdd, Nat.reduceMul, thenG_normal, thenG_ret, thenG_exit, thenG_goto, thenG_panic, blockG_normal, blockG_ret, blockG_goto, blockG_panic, jumpG_normal, jumpG_ret, jumpG_exit, jumpG_panic]
          | (refine GW_region' [] (by kernel_rfl) ?_; intro Q hQ hP; simp [hC, hY, fa_8, fa_4, hx]; (first | refine hQ _ _ _ _ ?_ | refine hP _ _ (fun _ => ?_)); clear hQ hP Q)
          | (refine GW_draw' [] follows (by kernel_rfl) (by kernel_rfl) ?_; intro Q hQ hP; simp [hC, hY, fa_8, fa_4, hx]; (first | refine hQ _ _ _ _ (by kernel_rfl) ?_ | refine hP _ _ (by kernel_rfl) (fun _ => ?_)); clear hQ hP Q)
          | refine GW_block ?_
          | refine GW_ret ?_
          | refine GW_skip ?_
          | refine GW_exit ?_
          | refine GW_goto ?_
          | refine GW_label ?_
          | simp only [blockG_exit]
          | (refine GW_cond (by simp; rfl) ?_ ?_ <;> (intro hb; first | (exfalso; exact absurd hb (by decide)) | skip)))
        refine ⟨.inr trivial, ?_⟩
        rw [ovD] at hov
        simp [Tryd.results87, hs1 hn, mulO, hx]
        rw [Bool.eq_iff_iff]
        simp [ng_sz]
        have h3 := sz_small D hbd.1 (by simpa using hov)
        simp at hov
        omega
      · have hov : ovD D = true := by rw [← hor]; simp [hx]
        unfold orW at hx
        have hx2 : (bitI .or .u64 (bitI .or .u64 (bitI .or .u64 (wi D 4) (wi D 5)) (wi D 6)) (wi D 7) == 0) = false := by simpa using hx
        have hx3 : (bitI .or .u64 (bitI .or .u64 (bitI .or .u64 (wi D 4) (wi D 5)) (wi D 6)) (wi D 7) != 0) = true := by simpa using hx
        repeat' (first
          | refine GW_seq ?_
          | simp only [List.length_cons, List.length_nil, Nat.reduceAdd, Nat.reduceMul, thenG_normal, thenG_ret, thenG_exit, thenG_goto, thenG_panic, blockG_normal, blockG_ret, blockG_goto, blockG_panic, jumpG_normal, jumpG_ret, jumpG_exit, jumpG_panic]
          | (refine GW_region' [] (by kernel_rfl) ?_; intro Q hQ hP; simp [hC, hY, fa_8, fa_4, hx, hx2, hx3]; (first | refine hQ _ _ _ _ ?_ | refine hP _ _ (fun _ => ?_)); clear hQ hP Q)
          | (refine GW_draw' [] follows (by kernel_rfl) (by kernel_rfl) ?_; intro Q hQ hP; simp [hC, hY, fa_8, fa_4, hx, hx2, hx3]; (first | refine hQ _ _ _ _ (by kernel_rfl) ?_ | refine hP _ _ (by kernel_rfl) (fun _ => ?_)); clear hQ hP Q)
          | refine GW_block ?_
          | refine GW_ret ?_
          | refine GW_skip ?_
          | refine GW_exit ?_
          | refine GW_goto ?_
          | refine GW_label ?_
          | simp only [blockG_exit]
          | (refine GW_cond (by simp; rfl) ?_ ?_ <;> (intro hb; first | (exfalso; exact absurd hb (by decide)) | skip)))
        refine ⟨.inr trivial, ?_⟩
        rw [ovD] at hov
        simp [Tryd.results87, hs1 hn, mulO, hx]
        simp at hov
        omega
  · have hn : (ng a == ng b) = false := by rw [ha, hq]; rfl
    refine GW_for 4 (mwSt 360 true (um a) (um b)) ?_ ?_ ?_
    · have e1 := wum_m a ha
      have e2 := wum_p b hq
      refine weakL _ 600 hC G0F (m0 := []) hC0 (by omega) ?_ ?_ ?_
      · simp [dom, fa_4, e1]
      · simp [fa_ids, fa_4, fa_8, e1, e2, wprow, Int.emod_one, wi_zero]
      · simp
    · intro i hi
      have hi' : (i : Int) < 4 := by omega
      have hz : (0 : Int) ≤ i := by omega
      have hs : Int.bmod ((i : Int) + 1) 18446744073709551616 = ((i + 1 : Nat) : Int) := by rw [bm (by omega) (by omega)]; rfl
      unfold mwSt
      repeat' (first
        | refine GW_seq ?_
        | simp only [List.length_cons, List.length_nil, Nat.reduceAdd, Nat.reduceMul, thenG_normal, thenG_ret, thenG_exit, thenG_goto, thenG_panic, blockG_normal, blockG_ret, blockG_goto, blockG_panic, jumpG_normal, jumpG_ret, jumpG_exit, jumpG_panic]
        | (refine GW_region' [] (by kernel_rfl) ?_; intro Q hQ hP; simp [hC, hY, hi, hi', hz, hs, fa_get]; (first | refine hQ _ _ _ _ ?_ | refine hP _ _ (fun _ => ?_)); clear hQ hP Q)
        | (refine GW_draw' [] follows (by kernel_rfl) (by kernel_rfl) ?_; intro Q hQ hP; simp [hC, hY, hi, hi', hz, hs, fa_get]; (first | refine hQ _ _ _ _ (by kernel_rfl) ?_ | refine hP _ _ (by kernel_rfl) (fun _ => ?_)); clear hQ hP Q)
        | refine GW_block ?_
        | refine GW_ret ?_
        | refine GW_skip ?_
        | refine GW_exit ?_
        | refine GW_goto ?_
        | refine GW_label ?_
        | simp only [blockG_exit]
        | (refine GW_cond (by simp; rfl) ?_ ?_ <;> (intro hb; first | (exfalso; exact absurd hb (by decide)) | skip)))
      refine GW_for 4 (mwSt2 360 true (um a) (um b) i) ?_ ?_ ?_
      · refine weakL _ 600 hC G0F (m0 := []) hC0 (by omega) ?_ ?_ ?_
        · simp [dom, wpcar_zero]
        · have e : fa 8 .u64 (wpout (um a) (um b) i 0) = fa 8 .u64 (wi (wprow (um a) (um b) i)) := fa_congr fun j _ => by unfold wpout; rw [if_neg (by omega)]
          simp [e, fa_ids]
        · simp
      · intro k hk
        have hk' : (k : Int) < 4 := by omega
        have hkz : (0 : Int) ≤ k := by omega
        have hs2 : Int.bmod ((k : Int) + 1) 18446744073709551616 = ((k + 1 : Nat) : Int) := by rw [bm (by omega) (by omega)]; rfl
        have hik : Int.bmod ((i : Int) + k) 18446744073709551616 = ((i + k : Nat) : Int) := by rw [bm (by omega) (by omega)]; rfl
        have hik2 : i + k < 8 := by omega
        have hik3 : (i : Int) + k < 8 := by omega
        have hik4 : (0 : Int) ≤ (i : Int) + k := by omega
        have hik5 : ((i : Int) + k).toNat = i + k := by omega
        have hik6 : (i : Int) + k ≤ 7 := by omega
        have hik7 : i + k ≤ 7 := by omega
        have hn := wn_bd (um a) (um b) i k
        have hc := wpcar_bd (um a) (um b) i k
        unfold mwSt2
        repeat' (first
          | refine GW_seq ?_
          | simp only [List.length_cons, List.length_nil, Nat.reduceAdd, Nat.reduceMul, thenG_normal, thenG_ret, thenG_exit, thenG_goto, thenG_panic, blockG_normal, blockG_ret, blockG_goto, blockG_panic, jumpG_normal, jumpG_ret, jumpG_exit, jumpG_panic]
          | (refine GW_region' [] (by kernel_rfl) ?_; intro Q hQ hP; simp [hC, hY, hi, hi', hz, hk, hk', hkz, hik, hik2, hik3, hik4, hik5, hik6, hik7, hs2, fa_get, fa_set, wi_ge, wi_lt, hn.1, hn.2.1, hn.2.2, hc.1]; (first | refine hQ _ _ _ _ ?_ | refine hP _ _ (fun _ => ?_)); clear hQ hP Q)
          | (refine GW_draw' [] follows (by kernel_rfl) (by kernel_rfl) ?_; intro Q hQ hP; simp [hC, hY, hi, hi', hz, hk, hk', hkz, hik, hik2, hik3, hik4, hik5, hik6, hik7, hs2, fa_get, fa_set, wi_ge, wi_lt, hn.1, hn.2.1, hn.2.2, hc.1]; (first | refine hQ _ _ _ _ (by kernel_rfl) ?_ | refine hP _ _ (by kernel_rfl) (fun _ => ?_)); clear hQ hP Q)
          | refine GW_block ?_
          | refine GW_ret ?_
          | refine GW_skip ?_
          | refine GW_exit ?_
          | refine GW_goto ?_
          | refine GW_label ?_
          | simp only [blockG_exit]
          | (refine GW_cond (by simp; rfl) ?_ ?_ <;> (intro hb; first | (exfalso; exact absurd hb (by decide)) | skip)))
        refine weakL _ 600 hC G0F (m0 := []) hC0 (by omega) ?_ ?_ ?_
        · simp [dom, hs2, wdivS]
        · have e : fa 8 .u64 (upd (wpout (um a) (um b) i k) (i + k) (wi (wprow (um a) (um b) (i + 1)) (i + k))) = fa 8 .u64 (wpout (um a) (um b) i (k + 1)) := fa_congr fun j _ => wpout_step (um a) (um b) i k j
          simp [fa_ids, wmodS, e]
        · simp
      · have hi8 : Int.bmod ((i : Int) + 4) 18446744073709551616 = (i : Int) + 4 := bm (by omega) (by omega)
        have hi9 : (0 : Int) ≤ (i : Int) + 4 := by omega
        have hi10 : ((i : Int) + 4).toNat = i + 4 := by omega
        have hi11 : (i : Int) + 4 < 8 := by omega
        have hi12 : (i : Int) ≤ 3 := by omega
        have hi14 : i ≤ 3 := by omega
        have hi13 : i + 4 < 8 := by omega
        unfold mwSt2
        repeat' (first
          | refine GW_seq ?_
          | simp only [List.length_cons, List.length_nil, Nat.reduceAdd, Nat.reduceMul, thenG_normal, thenG_ret, thenG_exit, thenG_goto, thenG_panic, blockG_normal, blockG_ret, blockG_goto, blockG_panic, jumpG_normal, jumpG_ret, jumpG_exit, jumpG_panic]
          | (refine GW_region' [] (by kernel_rfl) ?_; intro Q hQ hP; simp [hC, hY, hi, hi', hz, hs, hi8, hi9, hi10, hi11, hi12, hi13, hi14, fa_set]; (first | refine hQ _ _ _ _ ?_ | refine hP _ _ (fun _ => ?_)); clear hQ hP Q)
          | (refine GW_draw' [] follows (by kernel_rfl) (by kernel_rfl) ?_; intro Q hQ hP; simp [hC, hY, hi, hi', hz, hs, hi8, hi9, hi10, hi11, hi12, hi13, hi14, fa_set]; (first | refine hQ _ _ _ _ (by kernel_rfl) ?_ | refine hP _ _ (by kernel_rfl) (fun _ => ?_)); clear hQ hP Q)
          | refine GW_block ?_
          | refine GW_ret ?_
          | refine GW_skip ?_
          | refine GW_exit ?_
          | refine GW_goto ?_
          | refine GW_label ?_
          | simp only [blockG_exit]
          | (refine GW_cond (by simp; rfl) ?_ ?_ <;> (intro hb; first | (exfalso; exact absurd hb (by decide)) | skip)))
        refine weakL _ 600 hC G0F (m0 := []) hC0 (by omega) ?_ ?_ ?_
        · simp [dom, hs]
        · have e : fa 8 .u64 (upd (wpout (um a) (um b) i 4) (i + 4) (wpcar (um a) (um b) i 4)) = fa 8 .u64 (wi (wprow (um a) (um b) (i + 1))) := fa_congr fun j _ => wpout_end (um a) (um b) i hB0 hB1 j
          simp [fa_ids, e]
        · simp
    · unfold mwSt
      rw [eD]
      by_cases hx : orW D = 0
      · have hov : ovD D = false := by rw [← hor]; simp [hx]
        unfold orW at hx
        by_cases hzz : sz D = 0
        · have hw := words_z D hzz
          repeat' (first
            | refine GW_seq ?_
            | simp only [List.length_cons, List.length_nil, Nat.reduceAdd, Nat.reduceMul, thenG_normal, thenG_ret, thenG_exit, thenG_goto, thenG_panic, blockG_normal, blockG_ret, blockG_goto, blockG_panic, jumpG_normal, jumpG_ret, jumpG_exit, jumpG_panic]
            | (refine GW_region' [] (by kernel_rfl) ?_; intro Q hQ hP; simp [hC, hY, fa_8, fa_4, hx, hw]; (first | refine hQ _ _ _ _ ?_ | refine hP _ _ (fun _ => ?_)); clear hQ hP Q)
            | (refine GW_draw' [] follows (by kernel_rfl) (by kernel_rfl) ?_; intro Q hQ hP; simp [hC, hY, fa_8, fa_4, hx, hw]; (first | refine hQ _ _ _ _ (by kernel_rfl) ?_ | refine hP _ _ (by kernel_rfl) (fun _ => ?_)); clear hQ hP Q)
            | refine GW_block ?_
            | refine GW_ret ?_
            | refine GW_skip ?_
            | refine GW_exit ?_
            | refine GW_goto ?_
            | refine GW_label ?_
            | simp only [blockG_exit]
            | (refine GW_cond (by simp; rfl) ?_ ?_ <;> (intro hb; first | (exfalso; exact absurd hb (by decide)) | skip)))
          refine ⟨.inr trivial, ?_⟩
          rw [ovD] at hov
          simp [Tryd.results87, hs2 hn, mulO, hx]
          have := sz_small D hbd.1 (by simpa using hov)
          simp at hov
          omega
        · have hw := words_ne D hzz
          repeat' (first
            | refine GW_seq ?_
            | simp only [List.length_cons, List.length_nil, Nat.reduceAdd, Nat.reduceMul, thenG_normal, thenG_ret, thenG_exit, thenG_goto, thenG_panic, blockG_normal, blockG_ret, blockG_goto, blockG_panic, jumpG_normal, jumpG_ret, jumpG_exit, jumpG_panic]
            | (refine GW_region' [] (by kernel_rfl) ?_; intro Q hQ hP; simp [hC, hY, fa_8, fa_4, hx, hw]; (first | refine hQ _ _ _ _ ?_ | refine hP _ _ (fun _ => ?_)); clear hQ hP Q)
            | (refine GW_draw' [] follows (by kernel_rfl) (by kernel_rfl) ?_; intro Q hQ hP; simp [hC, hY, fa_8, fa_4, hx, hw]; (first | refine hQ _ _ _ _ (by kernel_rfl) ?_ | refine hP _ _ (by kernel_rfl) (fun _ => ?_)); clear hQ hP Q)
            | refine GW_block ?_
            | refine GW_ret ?_
            | refine GW_skip ?_
            | refine GW_exit ?_
            | refine GW_goto ?_
            | refine GW_label ?_
            | simp only [blockG_exit]
            | (refine GW_cond (by simp; rfl) ?_ ?_ <;> (intro hb; first | (exfalso; exact absurd hb (by decide)) | skip)))
          refine ⟨.inr trivial, ?_⟩
          rw [ovD] at hov
          simp [Tryd.results87, hs2 hn, mulO, hx]
          rw [Bool.eq_iff_iff]
          simp [ng_sz]
          have h3 := sz_small D hbd.1 (by simpa using hov)
          have h4 := sz_negl D hbd.1 (by simpa using hov)
          simp at hov
          omega
      · have hov : ovD D = true := by rw [← hor]; simp [hx]
        unfold orW at hx
        have hx2 : (bitI .or .u64 (bitI .or .u64 (bitI .or .u64 (wi D 4) (wi D 5)) (wi D 6)) (wi D 7) == 0) = false := by simpa using hx
        have hx3 : (bitI .or .u64 (bitI .or .u64 (bitI .or .u64 (wi D 4) (wi D 5)) (wi D 6)) (wi D 7) != 0) = true := by simpa using hx
        repeat' (first
          | refine GW_seq ?_
          | simp only [List.length_cons, List.length_nil, Nat.reduceAdd, Nat.reduceMul, thenG_normal, thenG_ret, thenG_exit, thenG_goto, thenG_panic, blockG_normal, blockG_ret, blockG_goto, blockG_panic, jumpG_normal, jumpG_ret, jumpG_exit, jumpG_panic]
          | (refine GW_region' [] (by kernel_rfl) ?_; intro Q hQ hP; simp [hC, hY, fa_8, fa_4, hx, hx2, hx3]; (first | refine hQ _ _ _ _ ?_ | refine hP _ _ (fun _ => ?_)); clear hQ hP Q)
          | (refine GW_draw' [] follows (by kernel_rfl) (by kernel_rfl) ?_; intro Q hQ hP; simp [hC, hY, fa_8, fa_4, hx, hx2, hx3]; (first | refine hQ _ _ _ _ (by kernel_rfl) ?_ | refine hP _ _ (by kernel_rfl) (fun _ => ?_)); clear hQ hP Q)
          | refine GW_block ?_
          | refine GW_ret ?_
          | refine GW_skip ?_
          | refine GW_exit ?_
          | refine GW_goto ?_
          | refine GW_label ?_
          | simp only [blockG_exit]
          | (refine GW_cond (by simp; rfl) ?_ ?_ <;> (intro hb; first | (exfalso; exact absurd hb (by decide)) | skip)))
        refine ⟨.inr trivial, ?_⟩
        rw [ovD] at hov
        simp [Tryd.results87, hs2 hn, mulO, hx]
        simp at hov
        omega
  · have hn : (ng a == ng b) = false := by rw [ha, hq]; rfl
    refine GW_for 4 (mwSt 360 true (um a) (um b)) ?_ ?_ ?_
    · have e1 := wum_p a ha
      have e2 := wum_m b hq
      refine weakL _ 600 hC G0F (m0 := []) hC0 (by omega) ?_ ?_ ?_
      · simp [dom, fa_4, e1]
      · simp [fa_ids, fa_4, fa_8, e1, e2, wprow, Int.emod_one, wi_zero]
      · simp
    · intro i hi
      have hi' : (i : Int) < 4 := by omega
      have hz : (0 : Int) ≤ i := by omega
      have hs : Int.bmod ((i : Int) + 1) 18446744073709551616 = ((i + 1 : Nat) : Int) := by rw [bm (by omega) (by omega)]; rfl
      unfold mwSt
      repeat' (first
        | refine GW_seq ?_
        | simp only [List.length_cons, List.length_nil, Nat.reduceAdd, Nat.reduceMul, thenG_normal, thenG_ret, thenG_exit, thenG_goto, thenG_panic, blockG_normal, blockG_ret, blockG_goto, blockG_panic, jumpG_normal, jumpG_ret, jumpG_exit, jumpG_panic]
        | (refine GW_region' [] (by kernel_rfl) ?_; intro Q hQ hP; simp [hC, hY, hi, hi', hz, hs, fa_get]; (first | refine hQ _ _ _ _ ?_ | refine hP _ _ (fun _ => ?_)); clear hQ hP Q)
        | (refine GW_draw' [] follows (by kernel_rfl) (by kernel_rfl) ?_; intro Q hQ hP; simp [hC, hY, hi, hi', hz, hs, fa_get]; (first | refine hQ _ _ _ _ (by kernel_rfl) ?_ | refine hP _ _ (by kernel_rfl) (fun _ => ?_)); clear hQ hP Q)
        | refine GW_block ?_
        | refine GW_ret ?_
        | refine GW_skip ?_
        | refine GW_exit ?_
        | refine GW_goto ?_
        | refine GW_label ?_
        | simp only [blockG_exit]
        | (refine GW_cond (by simp; rfl) ?_ ?_ <;> (intro hb; first | (exfalso; exact absurd hb (by decide)) | skip)))
      refine GW_for 4 (mwSt2 360 true (um a) (um b) i) ?_ ?_ ?_
      · refine weakL _ 600 hC G0F (m0 := []) hC0 (by omega) ?_ ?_ ?_
        · simp [dom, wpcar_zero]
        · have e : fa 8 .u64 (wpout (um a) (um b) i 0) = fa 8 .u64 (wi (wprow (um a) (um b) i)) := fa_congr fun j _ => by unfold wpout; rw [if_neg (by omega)]
          simp [e, fa_ids]
        · simp
      · intro k hk
        have hk' : (k : Int) < 4 := by omega
        have hkz : (0 : Int) ≤ k := by omega
        have hs2 : Int.bmod ((k : Int) + 1) 18446744073709551616 = ((k + 1 : Nat) : Int) := by rw [bm (by omega) (by omega)]; rfl
        have hik : Int.bmod ((i : Int) + k) 18446744073709551616 = ((i + k : Nat) : Int) := by rw [bm (by omega) (by omega)]; rfl
        have hik2 : i + k < 8 := by omega
        have hik3 : (i : Int) + k < 8 := by omega
        have hik4 : (0 : Int) ≤ (i : Int) + k := by omega
        have hik5 : ((i : Int) + k).toNat = i + k := by omega
        have hik6 : (i : Int) + k ≤ 7 := by omega
        have hik7 : i + k ≤ 7 := by omega
        have hn := wn_bd (um a) (um b) i k
        have hc := wpcar_bd (um a) (um b) i k
        unfold mwSt2
        repeat' (first
          | refine GW_seq ?_
          | simp only [List.length_cons, List.length_nil, Nat.reduceAdd, Nat.reduceMul, thenG_normal, thenG_ret, thenG_exit, thenG_goto, thenG_panic, blockG_normal, blockG_ret, blockG_goto, blockG_panic, jumpG_normal, jumpG_ret, jumpG_exit, jumpG_panic]
          | (refine GW_region' [] (by kernel_rfl) ?_; intro Q hQ hP; simp [hC, hY, hi, hi', hz, hk, hk', hkz, hik, hik2, hik3, hik4, hik5, hik6, hik7, hs2, fa_get, fa_set, wi_ge, wi_lt, hn.1, hn.2.1, hn.2.2, hc.1]; (first | refine hQ _ _ _ _ ?_ | refine hP _ _ (fun _ => ?_)); clear hQ hP Q)
          | (refine GW_draw' [] follows (by kernel_rfl) (by kernel_rfl) ?_; intro Q hQ hP; simp [hC, hY, hi, hi', hz, hk, hk', hkz, hik, hik2, hik3, hik4, hik5, hik6, hik7, hs2, fa_get, fa_set, wi_ge, wi_lt, hn.1, hn.2.1, hn.2.2, hc.1]; (first | refine hQ _ _ _ _ (by kernel_rfl) ?_ | refine hP _ _ (by kernel_rfl) (fun _ => ?_)); clear hQ hP Q)
          | refine GW_block ?_
          | refine GW_ret ?_
          | refine GW_skip ?_
          | refine GW_exit ?_
          | refine GW_goto ?_
          | refine GW_label ?_
          | simp only [blockG_exit]
          | (refine GW_cond (by simp; rfl) ?_ ?_ <;> (intro hb; first | (exfalso; exact absurd hb (by decide)) | skip)))
        refine weakL _ 600 hC G0F (m0 := []) hC0 (by omega) ?_ ?_ ?_
        · simp [dom, hs2, wdivS]
        · have e : fa 8 .u64 (upd (wpout (um a) (um b) i k) (i + k) (wi (wprow (um a) (um b) (i + 1)) (i + k))) = fa 8 .u64 (wpout (um a) (um b) i (k + 1)) := fa_congr fun j _ => wpout_step (um a) (um b) i k j
          simp [fa_ids, wmodS, e]
        · simp
      · have hi8 : Int.bmod ((i : Int) + 4) 18446744073709551616 = (i : Int) + 4 := bm (by omega) (by omega)
        have hi9 : (0 : Int) ≤ (i : Int) + 4 := by omega
        have hi10 : ((i : Int) + 4).toNat = i + 4 := by omega
        have hi11 : (i : Int) + 4 < 8 := by omega
        have hi12 : (i : Int) ≤ 3 := by omega
        have hi14 : i ≤ 3 := by omega
        have hi13 : i + 4 < 8 := by omega
        unfold mwSt2
        repeat' (first
          | refine GW_seq ?_
          | simp only [List.length_cons, List.length_nil, Nat.reduceAdd, Nat.reduceMul, thenG_normal, thenG_ret, thenG_exit, thenG_goto, thenG_panic, blockG_normal, blockG_ret, blockG_goto, blockG_panic, jumpG_normal, jumpG_ret, jumpG_exit, jumpG_panic]
          | (refine GW_region' [] (by kernel_rfl) ?_; intro Q hQ hP; simp [hC, hY, hi, hi', hz, hs, hi8, hi9, hi10, hi11, hi12, hi13, hi14, fa_set]; (first | refine hQ _ _ _ _ ?_ | refine hP _ _ (fun _ => ?_)); clear hQ hP Q)
          | (refine GW_draw' [] follows (by kernel_rfl) (by kernel_rfl) ?_; intro Q hQ hP; simp [hC, hY, hi, hi', hz, hs, hi8, hi9, hi10, hi11, hi12, hi13, hi14, fa_set]; (first | refine hQ _ _ _ _ (by kernel_rfl) ?_ | refine hP _ _ (by kernel_rfl) (fun _ => ?_)); clear hQ hP Q)
          | refine GW_block ?_
          | refine GW_ret ?_
          | refine GW_skip ?_
          | refine GW_exit ?_
          | refine GW_goto ?_
          | refine GW_label ?_
          | simp only [blockG_exit]
          | (refine GW_cond (by simp; rfl) ?_ ?_ <;> (intro hb; first | (exfalso; exact absurd hb (by decide)) | skip)))
        refine weakL _ 600 hC G0F (m0 := []) hC0 (by omega) ?_ ?_ ?_
        · simp [dom, hs]
        · have e : fa 8 .u64 (upd (wpout (um a) (um b) i 4) (i + 4) (wpcar (um a) (um b) i 4)) = fa 8 .u64 (wi (wprow (um a) (um b) (i + 1))) := fa_congr fun j _ => wpout_end (um a) (um b) i hB0 hB1 j
          simp [fa_ids, e]
        · simp
    · unfold mwSt
      rw [eD]
      by_cases hx : orW D = 0
      · have hov : ovD D = false := by rw [← hor]; simp [hx]
        unfold orW at hx
        by_cases hzz : sz D = 0
        · have hw := words_z D hzz
          repeat' (first
            | refine GW_seq ?_
            | simp only [List.length_cons, List.length_nil, Nat.reduceAdd, Nat.reduceMul, thenG_normal, thenG_ret, thenG_exit, thenG_goto, thenG_panic, blockG_normal, blockG_ret, blockG_goto, blockG_panic, jumpG_normal, jumpG_ret, jumpG_exit, jumpG_panic]
            | (refine GW_region' [] (by kernel_rfl) ?_; intro Q hQ hP; simp [hC, hY, fa_8, fa_4, hx, hw]; (first | refine hQ _ _ _ _ ?_ | refine hP _ _ (fun _ => ?_)); clear hQ hP Q)
            | (refine GW_draw' [] follows (by kernel_rfl) (by kernel_rfl) ?_; intro Q hQ hP; simp [hC, hY, fa_8, fa_4, hx, hw]; (first | refine hQ _ _ _ _ (by kernel_rfl) ?_ | refine hP _ _ (by kernel_rfl) (fun _ => ?_)); clear hQ hP Q)
            | refine GW_block ?_
            | refine GW_ret ?_
            | refine GW_skip ?_
            | refine GW_exit ?_
            | refine GW_goto ?_
            | refine GW_label ?_
            | simp only [blockG_exit]
            | (refine GW_cond (by simp; rfl) ?_ ?_ <;> (intro hb; first | (exfalso; exact absurd hb (by decide)) | skip)))
          refine ⟨.inr trivial, ?_⟩
          rw [ovD] at hov
          simp [Tryd.results87, hs2 hn, mulO, hx]
          have := sz_small D hbd.1 (by simpa using hov)
          simp at hov
          omega
        · have hw := words_ne D hzz
          repeat' (first
            | refine GW_seq ?_
            | simp only [List.length_cons, List.length_nil, Nat.reduceAdd, Nat.reduceMul, thenG_normal, thenG_ret, thenG_exit, thenG_goto, thenG_panic, blockG_normal, blockG_ret, blockG_goto, blockG_panic, jumpG_normal, jumpG_ret, jumpG_exit, jumpG_panic]
            | (refine GW_region' [] (by kernel_rfl) ?_; intro Q hQ hP; simp [hC, hY, fa_8, fa_4, hx, hw]; (first | refine hQ _ _ _ _ ?_ | refine hP _ _ (fun _ => ?_)); clear hQ hP Q)
            | (refine GW_draw' [] follows (by kernel_rfl) (by kernel_rfl) ?_; intro Q hQ hP; simp [hC, hY, fa_8, fa_4, hx, hw]; (first | refine hQ _ _ _ _ (by kernel_rfl) ?_ | refine hP _ _ (by kernel_rfl) (fun _ => ?_)); clear hQ hP Q)
            | refine GW_block ?_
            | refine GW_ret ?_
            | refine GW_skip ?_
            | refine GW_exit ?_
            | refine GW_goto ?_
            | refine GW_label ?_
            | simp only [blockG_exit]
            | (refine GW_cond (by simp; rfl) ?_ ?_ <;> (intro hb; first | (exfalso; exact absurd hb (by decide)) | skip)))
          refine ⟨.inr trivial, ?_⟩
          rw [ovD] at hov
          simp [Tryd.results87, hs2 hn, mulO, hx]
          rw [Bool.eq_iff_iff]
          simp [ng_sz]
          have h3 := sz_small D hbd.1 (by simpa using hov)
          have h4 := sz_negl D hbd.1 (by simpa using hov)
          simp at hov
          omega
      · have hov : ovD D = true := by rw [← hor]; simp [hx]
        unfold orW at hx
        have hx2 : (bitI .or .u64 (bitI .or .u64 (bitI .or .u64 (wi D 4) (wi D 5)) (wi D 6)) (wi D 7) == 0) = false := by simpa using hx
        have hx3 : (bitI .or .u64 (bitI .or .u64 (bitI .or .u64 (wi D 4) (wi D 5)) (wi D 6)) (wi D 7) != 0) = true := by simpa using hx
        repeat' (first
          | refine GW_seq ?_
          | simp only [List.length_cons, List.length_nil, Nat.reduceAdd, Nat.reduceMul, thenG_normal, thenG_ret, thenG_exit, thenG_goto, thenG_panic, blockG_normal, blockG_ret, blockG_goto, blockG_panic, jumpG_normal, jumpG_ret, jumpG_exit, jumpG_panic]
          | (refine GW_region' [] (by kernel_rfl) ?_; intro Q hQ hP; simp [hC, hY, fa_8, fa_4, hx, hx2, hx3]; (first | refine hQ _ _ _ _ ?_ | refine hP _ _ (fun _ => ?_)); clear hQ hP Q)
          | (refine GW_draw' [] follows (by kernel_rfl) (by kernel_rfl) ?_; intro Q hQ hP; simp [hC, hY, fa_8, fa_4, hx, hx2, hx3]; (first | refine hQ _ _ _ _ (by kernel_rfl) ?_ | refine hP _ _ (by kernel_rfl) (fun _ => ?_)); clear hQ hP Q)
          | refine GW_block ?_
          | refine GW_ret ?_
          | refine GW_skip ?_
          | refine GW_exit ?_
          | refine GW_goto ?_
          | refine GW_label ?_
          | simp only [blockG_exit]
          | (refine GW_cond (by simp; rfl) ?_ ?_ <;> (intro hb; first | (exfalso; exact absurd hb (by decide)) | skip)))
        refine ⟨.inr trivial, ?_⟩
        rw [ovD] at hov
        simp [Tryd.results87, hs2 hn, mulO, hx]
        simp at hov
        omega
  · have hn : (ng a == ng b) = true := by rw [ha, hq]; rfl
    refine GW_for 4 (mwSt 408 false (um a) (um b)) ?_ ?_ ?_
    · have e1 := wum_p a ha
      have e2 := wum_p b hq
      refine weakL _ 600 hC G0F (m0 := []) hC0 (by omega) ?_ ?_ ?_
      · simp [dom, fa_4, e1]
      · simp [fa_ids, fa_4, fa_8, e1, e2, wprow, Int.emod_one, wi_zero]
      · simp
    · intro i hi
      have hi' : (i : Int) < 4 := by omega
      have hz : (0 : Int) ≤ i := by omega
      have hs : Int.bmod ((i : Int) + 1) 18446744073709551616 = ((i + 1 : Nat) : Int) := by rw [bm (by omega) (by omega)]; rfl
      unfold mwSt
      repeat' (first
        | refine GW_seq ?_
        | simp only [List.length_cons, List.length_nil, Nat.reduceAdd, Nat.reduceMul, thenG_normal, thenG_ret, thenG_exit, thenG_goto, thenG_panic, blockG_normal, blockG_ret, blockG_goto, blockG_panic, jumpG_normal, jumpG_ret, jumpG_exit, jumpG_panic]
        | (refine GW_region' [] (by kernel_rfl) ?_; intro Q hQ hP; simp [hC, hY, hi, hi', hz, hs, fa_get]; (first | refine hQ _ _ _ _ ?_ | refine hP _ _ (fun _ => ?_)); clear hQ hP Q)
        | (refine GW_draw' [] follows (by kernel_rfl) (by kernel_rfl) ?_; intro Q hQ hP; simp [hC, hY, hi, hi', hz, hs, fa_get]; (first | refine hQ _ _ _ _ (by kernel_rfl) ?_ | refine hP _ _ (by kernel_rfl) (fun _ => ?_)); clear hQ hP Q)
        | refine GW_block ?_
        | refine GW_ret ?_
        | refine GW_skip ?_
        | refine GW_exit ?_
        | refine GW_goto ?_
        | refine GW_label ?_
        | simp only [blockG_exit]
        | (refine GW_cond (by simp; rfl) ?_ ?_ <;> (intro hb; first | (exfalso; exact absurd hb (by decide)) | skip)))
      refine GW_for 4 (mwSt2 408 false (um a) (um b) i) ?_ ?_ ?_
      · refine weakL _ 600 hC G0F (m0 := []) hC0 (by omega) ?_ ?_ ?_
        · simp [dom, wpcar_zero]
        · have e : fa 8 .u64 (wpout (um a) (um b) i 0) = fa 8 .u64 (wi (wprow (um a) (um b) i)) := fa_congr fun j _ => by unfold wpout; rw [if_neg (by omega)]
          simp [e, fa_ids]
        · simp
      · intro k hk
        have hk' : (k : Int) < 4 := by omega
        have hkz : (0 : Int) ≤ k := by omega
        have hs2 : Int.bmod ((k : Int) + 1) 18446744073709551616 = ((k + 1 : Nat) : Int) := by rw [bm (by omega) (by omega)]; rfl
        have hik : Int.bmod ((i : Int) + k) 18446744073709551616 = ((i + k : Nat) : Int) := by rw [bm (by omega) (by omega)]; rfl
        have hik2 : i + k < 8 := by omega
        have hik3 : (i : Int) + k < 8 := by omega
        have hik4 : (0 : Int) ≤ (i : Int) + k := by omega
        have hik5 : ((i : Int) + k).toNat = i + k := by omega
        have hik6 : (i : Int) + k ≤ 7 := by omega
        have hik7 : i + k ≤ 7 := by omega
        have hn := wn_bd (um a) (um b) i k
        have hc := wpcar_bd (um a) (um b) i k
        unfold mwSt2
        repeat' (first
          | refine GW_seq ?_
          | simp only [List.length_cons, List.length_nil, Nat.reduceAdd, Nat.reduceMul, thenG_normal, thenG_ret, thenG_exit, thenG_goto, thenG_panic, blockG_normal, blockG_ret, blockG_goto, blockG_panic, jumpG_normal, jumpG_ret, jumpG_exit, jumpG_panic]
          | (refine GW_region' [] (by kernel_rfl) ?_; intro Q hQ hP; simp [hC, hY, hi, hi', hz, hk, hk', hkz, hik, hik2, hik3, hik4, hik5, hik6, hik7, hs2, fa_get, fa_set, wi_ge, wi_lt, hn.1, hn.2.1, hn.2.2, hc.1]; (first | refine hQ _ _ _ _ ?_ | refine hP _ _ (fun _ => ?_)); clear hQ hP Q)
          | (refine GW_draw' [] follows (by kernel_rfl) (by kernel_rfl) ?_; intro Q hQ hP; simp [hC, hY, hi, hi', hz, hk, hk', hkz, hik, hik2, hik3, hik4, hik5, hik6, hik7, hs2, fa_get, fa_set, wi_ge, wi_lt, hn.1, hn.2.1, hn.2.2, hc.1]; (first | refine hQ _ _ _ _ (by kernel_rfl) ?_ | refine hP _ _ (by kernel_rfl) (fun _ => ?_)); clear hQ hP Q)
          | refine GW_block ?_
          | refine GW_ret ?_
          | refine GW_skip ?_
          | refine GW_exit ?_
          | refine GW_goto ?_
          | refine GW_label ?_
          | simp only [blockG_exit]
          | (refine GW_cond (by simp; rfl) ?_ ?_ <;> (intro hb; first | (exfalso; exact absurd hb (by decide)) | skip)))
        refine weakL _ 600 hC G0F (m0 := []) hC0 (by omega) ?_ ?_ ?_
        · simp [dom, hs2, wdivS]
        · have e : fa 8 .u64 (upd (wpout (um a) (um b) i k) (i + k) (wi (wprow (um a) (um b) (i + 1)) (i + k))) = fa 8 .u64 (wpout (um a) (um b) i (k + 1)) := fa_congr fun j _ => wpout_step (um a) (um b) i k j
          simp [fa_ids, wmodS, e]
        · simp
      · have hi8 : Int.bmod ((i : Int) + 4) 18446744073709551616 = (i : Int) + 4 := bm (by omega) (by omega)
        have hi9 : (0 : Int) ≤ (i : Int) + 4 := by omega
        have hi10 : ((i : Int) + 4).toNat = i + 4 := by omega
        have hi11 : (i : Int) + 4 < 8 := by omega
        have hi12 : (i : Int) ≤ 3 := by omega
        have hi14 : i ≤ 3 := by omega
        have hi13 : i + 4 < 8 := by omega
        unfold mwSt2
        repeat' (first
          | refine GW_seq ?_
          | simp only [List.length_cons, List.length_nil, Nat.reduceAdd, Nat.reduceMul, thenG_normal, thenG_ret, thenG_exit, thenG_goto, thenG_panic, blockG_normal, blockG_ret, blockG_goto, blockG_panic, jumpG_normal, jumpG_ret, jumpG_exit, jumpG_panic]
          | (refine GW_region' [] (by kernel_rfl) ?_; intro Q hQ hP; simp [hC, hY, hi, hi', hz, hs, hi8, hi9, hi10, hi11, hi12, hi13, hi14, fa_set]; (first | refine hQ _ _ _ _ ?_ | refine hP _ _ (fun _ => ?_)); clear hQ hP Q)
          | (refine GW_draw' [] follows (by kernel_rfl) (by kernel_rfl) ?_; intro Q hQ hP; simp [hC, hY, hi, hi', hz, hs, hi8, hi9, hi10, hi11, hi12, hi13, hi14, fa_set]; (first | refine hQ _ _ _ _ (by kernel_rfl) ?_ | refine hP _ _ (by kernel_rfl) (fun _ => ?_)); clear hQ hP Q)
          | refine GW_block ?_
          | refine GW_ret ?_
          | refine GW_skip ?_
          | refine GW_exit ?_
          | refine GW_goto ?_
          | refine GW_label ?_
          | simp only [blockG_exit]
          | (refine GW_cond (by simp; rfl) ?_ ?_ <;> (intro hb; first | (exfalso; exact absurd hb (by decide)) | skip)))
        refine weakL _ 600 hC G0F (m0 := []) hC0 (by omega) ?_ ?_ ?_
        · simp [dom, hs]
        · have e : fa 8 .u64 (upd (wpout (um a) (um b) i 4) (i + 4) (wpcar (um a) (um b) i 4)) = fa 8 .u64 (wi (wprow (um a) (um b) (i + 1))) := fa_congr fun j _ => wpout_end (um a) (um b) i hB0 hB1 j
          simp [fa_ids, e]
        · simp
    · unfold mwSt
      rw [eD]
      by_cases hx : orW D = 0
      · have hov : ovD D = false := by rw [← hor]; simp [hx]
        unfold orW at hx
        repeat' (first
          | refine GW_seq ?_
          | simp only [List.length_cons, List.length_nil, Nat.reduceAdd, Nat.reduceMul, thenG_normal, thenG_ret, thenG_exit, thenG_goto, thenG_panic, blockG_normal, blockG_ret, blockG_goto, blockG_panic, jumpG_normal, jumpG_ret, jumpG_exit, jumpG_panic]
          | (refine GW_region' [] (by kernel_rfl) ?_; intro Q hQ hP; simp [hC, hY, fa_8, fa_4, hx]; (first | refine hQ _ _ _ _ ?_ | refine hP _ _ (fun _ => ?_)); clear hQ hP Q)
          | (refine GW_draw' [] follows (by kernel_rfl) (by kernel_rfl) ?_; intro Q hQ hP; simp [hC, hY, fa_8, fa_4, hx]; (first | refine hQ _ _ _ _ (by kernel_rfl) ?_ | refine hP _ _ (by kernel_rfl) (fun _ => ?_)); clear hQ hP Q)
          | refine GW_block ?_
          | refine GW_ret ?_
          | refine GW_skip ?_
          | refine GW_exit ?_
          | refine GW_goto ?_
          | refine GW_label ?_
          | simp only [blockG_exit]
          | (refine GW_cond (by simp; rfl) ?_ ?_ <;> (intro hb; first | (exfalso; exact absurd hb (by decide)) | skip)))
        refine ⟨.inr trivial, ?_⟩
        rw [ovD] at hov
        simp [Tryd.results87, hs1 hn, mulO, hx]
        rw [Bool.eq_iff_iff]
        simp [ng_sz]
        have h3 := sz_small D hbd.1 (by simpa using hov)
        simp at hov
        omega
      · have hov : ovD D = true := by rw [← hor]; simp [hx]
        unfold orW at hx
        have hx2 : (bitI .or .u64 (bitI .or .u64 (bitI .or .u64 (wi D 4) (wi D 5)) (wi D 6)) (wi D 7) == 0) = false := by simpa using hx
        have hx3 : (bitI .or .u64 (bitI .or .u64 (bitI .or .u64 (wi D 4) (wi D 5)) (wi D 6)) (wi D 7) != 0) = true := by simpa using hx
        repeat' (first
          | refine GW_seq ?_
          | simp only [List.length_cons, List.length_nil, Nat.reduceAdd, Nat.reduceMul, thenG_normal, thenG_ret, thenG_exit, thenG_goto, thenG_panic, blockG_normal, blockG_ret, blockG_goto, blockG_panic, jumpG_normal, jumpG_ret, jumpG_exit, jumpG_panic]
          | (refine GW_region' [] (by kernel_rfl) ?_; intro Q hQ hP; simp [hC, hY, fa_8, fa_4, hx, hx2, hx3]; (first | refine hQ _ _ _ _ ?_ | refine hP _ _ (fun _ => ?_)); clear hQ hP Q)
          | (refine GW_draw' [] follows (by kernel_rfl) (by kernel_rfl) ?_; intro Q hQ hP; simp [hC, hY, fa_8, fa_4, hx, hx2, hx3]; (first | refine hQ _ _ _ _ (by kernel_rfl) ?_ | refine hP _ _ (by kernel_rfl) (fun _ => ?_)); clear hQ hP Q)
          | refine GW_block ?_
          | refine GW_ret ?_
          | refine GW_skip ?_
          | refine GW_exit ?_
          | refine GW_goto ?_
          | refine GW_label ?_
          | simp only [blockG_exit]
          | (refine GW_cond (by simp; rfl) ?_ ?_ <;> (intro hb; first | (exfalso; exact absurd hb (by decide)) | skip)))
        refine ⟨.inr trivial, ?_⟩
        rw [ovD] at hov
        simp [Tryd.results87, hs1 hn, mulO, hx]
        simp at hov
        omega
@[simp] theorem wMul (a b : Int) (K : Value → Prop) : callK Tryd.prog G0 87 #[Value.agg #[.int .u64 (wi (a) 0), .int .u64 (wi (a) 1), .int .u64 (wi (a) 2), .int .u64 (wi (a) 3)], Value.agg #[.int .u64 (wi (b) 0), .int .u64 (wi (b) 1), .int .u64 (wi (b) 2), .int .u64 (wi (b) 3)]] K ↔ K (.tuple #[wd (sz a * sz b), .bool (mulO a b)]) := callK_iff G0W (by kernel_rfl) (wmul_ret a b)
end Go.Gy
