/-
  Contracts: math/bits.Len64, quot.size.
  Conditions: none.
-/
import Derived.Test.YtggidgaeggekhaaDoorGyQ1
namespace Go.Gy
set_option linter.unusedSimpArgs false
set_option linter.unusedVariables false
open Go Go.RowKit Go.Proofs

/-- How many bits a number has. -/
def nbits (x : Int) : Int := if x ≤ 0 then 0 else (Nat.log2 x.toNat : Int) + 1
theorem nbits_pos {x : Int} (h : 0 < x) : ∃ k : Nat, nbits x = k + 1 ∧ 2 ^ k ≤ x ∧ x < 2 ^ (k + 1) := by
  refine ⟨Nat.log2 x.toNat, by unfold nbits; rw [if_neg (by omega)], ?_, ?_⟩
  · have := Nat.log2_self_le (n := x.toNat) (by omega)
    have h2 : ((2 ^ Nat.log2 x.toNat : Nat) : Int) ≤ (x.toNat : Int) := by exact_mod_cast this
    rw [Int.toNat_of_nonneg (by omega)] at h2
    exact_mod_cast h2
  · have := Nat.lt_log2_self (n := x.toNat)
    have h2 : (x.toNat : Int) < ((2 ^ (Nat.log2 x.toNat + 1) : Nat) : Int) := by exact_mod_cast this
    rw [Int.toNat_of_nonneg (by omega)] at h2
    exact_mod_cast h2
theorem nbits_is {x : Int} {k : Nat} (h1 : 2 ^ k ≤ x) (h2 : x < 2 ^ (k + 1)) : nbits x = k + 1 := by
  have hp : (0 : Int) < 2 ^ k := Int.pow_pos (by omega)
  unfold nbits
  rw [if_neg (by omega)]
  have : Nat.log2 x.toNat = k := (Nat.log2_eq_iff (by omega)).2 ⟨by
    have : ((2 ^ k : Nat) : Int) ≤ (x.toNat : Int) := by rw [Int.toNat_of_nonneg (by omega)]; exact_mod_cast h1
    exact_mod_cast this, by
    have : (x.toNat : Int) < ((2 ^ (k + 1) : Nat) : Int) := by rw [Int.toNat_of_nonneg (by omega)]; exact_mod_cast h2
    exact_mod_cast this⟩
  rw [this]
theorem nbits_div {x : Int} (j : Nat) (h : 2 ^ j ≤ x) : nbits x = j + nbits (x / 2 ^ j) := by
  have hp : (0 : Int) < 2 ^ j := Int.pow_pos (by omega)
  have h1 : 0 < x / 2 ^ j := by
    have := (Int.le_ediv_iff_mul_le hp (a := 1) (b := x)).2 (by omega); omega
  obtain ⟨k, e, l1, l2⟩ := nbits_pos h1
  rw [e]
  have := nbits_is (x := x) (k := j + k) (by
    have := (Int.le_ediv_iff_mul_le hp).1 l1
    rw [Int.pow_add, Int.mul_comm]; exact this) (by
    have := (Int.ediv_lt_iff_lt_mul hp).1 l2
    rw [Nat.add_assoc, Int.pow_add, Int.mul_comm]; exact this)
  rw [this]; omega
theorem idvS_tab {s : ByteArray} {m : Int} {C : Eff → Prop} (h0 : 0 ≤ m) (h1 : m < 256) (ht : ∀ k : Fin 256, (s[k.1]?).map (fun b => b.toNat) = some (if k.1 = 0 then 0 else Nat.log2 k.1 + 1)) (h : C (val (.int .u8 (nbits m)) [])) : idvS s m C := by
  have h2 := ht ⟨m.toNat, by omega⟩
  cases hb : s[m.toNat]? with
  | none => simp [hb] at h2
  | some b =>
    simp only [hb, Option.map_some, Option.some.injEq] at h2
    rw [idvS_at h0 hb, h2]
    have : ((if m.toNat = 0 then 0 else Nat.log2 m.toNat + 1 : Nat) : Int) = nbits m := by
      unfold nbits
      by_cases e : m ≤ 0
      · rw [if_pos e, if_pos (by omega)]; rfl
      · rw [if_neg e, if_neg (by omega)]; rfl
    exact this ▸ h
theorem nbits_lt {x : Int} (h : x < 256) : 0 ≤ nbits x ∧ nbits x ≤ 8 := by
  by_cases h0 : 0 < x
  · obtain ⟨k, e, l1, l2⟩ := nbits_pos h0
    rw [e]
    have : k < 8 := Classical.byContradiction fun hk => by
      have : (2 : Int) ^ 8 ≤ 2 ^ k := by exact_mod_cast Nat.pow_le_pow_right (by omega) (by omega : 8 ≤ k)
      omega
    omega
  · unfold nbits; rw [if_pos (by omega)]; omega
@[simp] theorem wrap_u8 (z : Int) : IntKind.u8.wrap z = z % 256 := rfl
set_option maxHeartbeats 1000000 in
theorem len64_ret (x : Int) (h0 : 0 ≤ x) (h1 : x < 18446744073709551616) : Ret Tryd.prog G0 114 #[.int .u64 x] (.int .i64 (nbits x)) := by
  refine ret_of G0F Tryd.func114 rfl Tryd.call114 rfl (by simp) (by simp [Tryd.ntmps114]) ?_
  intro C hC hC0 hY
  have f32 : ∀ z : Int, z.fdiv 4294967296 = z / 4294967296 := fun z => Int.fdiv_eq_ediv_of_nonneg z (by omega)
  have f16 : ∀ z : Int, z.fdiv 65536 = z / 65536 := fun z => Int.fdiv_eq_ediv_of_nonneg z (by omega)
  have f8 : ∀ z : Int, z.fdiv 256 = z / 256 := fun z => Int.fdiv_eq_ediv_of_nonneg z (by omega)
  have n32 : 4294967296 ≤ x → nbits x = 32 + nbits (x / 4294967296) := nbits_div 32
  have n16 : ∀ y : Int, 65536 ≤ y → nbits y = 16 + nbits (y / 65536) := fun y => nbits_div 16
  have n8 : ∀ y : Int, 256 ≤ y → nbits y = 8 + nbits (y / 256) := fun y => nbits_div 8
  repeat' (first
    | refine GW_seq ?_
    | simp only [List.length_cons, List.length_nil, Nat.reduceAdd, Nat.reduceMul, thenG_normal, thenG_ret, thenG_exit, thenG_goto, thenG_panic, blockG_normal, blockG_ret, blockG_goto, blockG_panic, jumpG_normal, jumpG_ret, jumpG_exit, jumpG_panic]
    | (refine GW_region' [] (by kernel_rfl) ?_; intro Q hQ hP; simp [hC, hY, f32, f16, f8]; (first | refine hQ _ _ _ _ ?_ | refine hP _ _ (fun _ => ?_)); clear hQ hP Q)
    | (refine GW_draw' [] follows (by kernel_rfl) (by kernel_rfl) ?_; intro Q hQ hP; simp [hC, hY, f32, f16, f8]; (first | refine hQ _ _ _ _ (by kernel_rfl) ?_ | refine hP _ _ (by kernel_rfl) (fun _ => ?_)); clear hQ hP Q)
    | refine GW_block ?_
    | refine GW_ret ?_
    | refine GW_skip ?_
    | refine GW_exit ?_
    | refine GW_goto ?_
    | refine GW_label ?_
    | simp only [blockG_exit]
    | (refine GW_cond (by simp; rfl) ?_ ?_ <;> (intro hb; first | (exfalso; exact absurd hb (by decide)) | skip)))
  all_goals
    rename_i c1 c2
    simp at c1 c2 hb
    refine GW_region' [] (by kernel_rfl) ?_; intro Q hQ hP; simp [hC, hY]
    refine idvS_tab (by omega) (by omega) (by decide +kernel) ?_
    simp
    refine hQ _ _ _ _ ?_
    repeat' (first
      | refine GW_seq ?_
      | simp only [List.length_cons, List.length_nil, Nat.reduceAdd, Nat.reduceMul, thenG_normal, thenG_ret, thenG_exit, thenG_goto, thenG_panic, blockG_normal, blockG_ret, blockG_goto, blockG_panic, jumpG_normal, jumpG_ret, jumpG_exit, jumpG_panic]
      | (refine GW_region' [] (by kernel_rfl) ?_; intro Q hQ hP; simp [hC, hY]; (first | refine hQ _ _ _ _ ?_ | refine hP _ _ (fun _ => ?_)); clear hQ hP Q)
      | (refine GW_draw' [] follows (by kernel_rfl) (by kernel_rfl) ?_; intro Q hQ hP; simp [hC, hY]; (first | refine hQ _ _ _ _ (by kernel_rfl) ?_ | refine hP _ _ (by kernel_rfl) (fun _ => ?_)); clear hQ hP Q)
      | refine GW_block ?_
      | refine GW_ret ?_
      | refine GW_skip ?_
      | refine GW_exit ?_
      | refine GW_goto ?_
      | refine GW_label ?_
      | simp only [blockG_exit]
      | (refine GW_cond (by simp; rfl) ?_ ?_ <;> (intro hb; first | (exfalso; exact absurd hb (by decide)) | skip)))
    refine ⟨.inr trivial, ?_⟩
    simp [Tryd.results114]
    rw [Int.emod_eq_of_lt (by omega) (by omega)]
    have k2 := n16 x
    have k3 := n16 (x / 4294967296)
    have k4 := n8 x
    have k5 := n8 (x / 4294967296)
    have k6 := n8 (x / 65536)
    have k7 := n8 (x / 4294967296 / 65536)
    have b1 := nbits_lt (x := x)
    have b2 := nbits_lt (x := x / 256)
    have b3 := nbits_lt (x := x / 65536)
    have b4 := nbits_lt (x := x / 65536 / 256)
    have b5 := nbits_lt (x := x / 4294967296)
    have b6 := nbits_lt (x := x / 4294967296 / 256)
    have b7 := nbits_lt (x := x / 4294967296 / 65536)
    have b8 := nbits_lt (x := x / 4294967296 / 65536 / 256)
    rw [bm (by omega) (by omega)]
    try omega
@[simp] theorem len64 (x : Int) (h0 : 0 ≤ x) (h1 : x < 18446744073709551616) (K : Value → Prop) : callK Tryd.prog G0 114 #[.int .u64 x] K ↔ K (.int .i64 (nbits x)) := callK_iff G0W (by kernel_rfl) (len64_ret x h0 h1)
/-- A number as it is without a sign. -/
def uz (z : Int) : Int := z % 115792089237316195423570985008687907853269984665640564039457584007913129639936
theorem nbits_bd {x : Int} (j : Nat) (h : x < 2 ^ j) : 0 ≤ nbits x ∧ nbits x ≤ j := by
  by_cases h0 : 0 < x
  · obtain ⟨k, e, l1, l2⟩ := nbits_pos h0
    rw [e]
    have : k < j := Classical.byContradiction fun hk => by
      have : (2 : Int) ^ j ≤ 2 ^ k := by exact_mod_cast Nat.pow_le_pow_right (by omega) (by omega : j ≤ k)
      omega
    omega
  · unfold nbits; rw [if_pos (by omega)]; omega
theorem nb_word (z : Int) (k : Nat) : 0 ≤ nbits (wi z k) ∧ nbits (wi z k) ≤ 64 := nbits_bd 64 (by have := wi_lt z k; omega)
theorem size_3 (z : Int) (h : ¬ wi z 3 = 0) : nbits (uz z) = 192 + nbits (wi z 3) := by
  have h0 := wi_ge z 3
  have e : uz z / 2 ^ 192 = wi z 3 := by unfold uz wi; omega
  have := nbits_div (x := uz z) 192 (by unfold wi at h h0; unfold uz; omega)
  rw [this, e]; rfl
theorem size_2 (z : Int) (h3 : wi z 3 = 0) (h : ¬ wi z 2 = 0) : nbits (uz z) = 128 + nbits (wi z 2) := by
  have h0 := wi_ge z 2
  have e : uz z / 2 ^ 128 = wi z 2 := by unfold wi at h3; unfold uz wi; omega
  have := nbits_div (x := uz z) 128 (by unfold wi at h h0; unfold uz; omega)
  rw [this, e]; rfl
theorem size_1 (z : Int) (h3 : wi z 3 = 0) (h2 : wi z 2 = 0) (h : ¬ wi z 1 = 0) : nbits (uz z) = 64 + nbits (wi z 1) := by
  have h0 := wi_ge z 1
  have e : uz z / 2 ^ 64 = wi z 1 := by unfold wi at h3 h2; unfold uz wi; omega
  have := nbits_div (x := uz z) 64 (by unfold wi at h h0; unfold uz; omega)
  rw [this, e]; rfl
theorem size_0 (z : Int) (h3 : wi z 3 = 0) (h2 : wi z 2 = 0) (h1 : wi z 1 = 0) : uz z = wi z 0 := by
  unfold wi at h3 h2 h1; unfold uz wi; omega
end Go.Gy
