/-
  Lemmas of this claim, in their order (GyDB, GyDC, GyWA, GyWB, GyLB, GyWC, GyWD, GyWE, GyWF, GyWG, GyWH, GyWK, GyLC, GyWL).
  Conditions: those of each theorem.
-/
import Derived.Test.YteoefgffimgcmaaDoorGz04
namespace Go.Gy
set_option linter.unusedSimpArgs false
set_option linter.unusedVariables false
open Go Go.RowKit Go.Proofs
/-- Whether it is a part. -/
def partB (n d : Int) : Bool := decide (-2097152 ≤ n ∧ n ≤ 2097152 ∧ 1 ≤ d ∧ d ≤ 2097152)
theorem part_max (n : Int) (hn : i64 n) {m : Int} (hm : (if n < Int.bmod (-n) 18446744073709551616 then Int.bmod (-n) 18446744073709551616 else n) = m) : (m ≤ 2097152 ∧ -2097152 ≤ n) ↔ (-2097152 ≤ n ∧ n ≤ 2097152) := by
  have h1 := hn.1
  have h2 := hn.2
  rw [Int.bmod_def] at hm
  by_cases e : n = -9223372036854775808
  · subst e; simp at hm; omega
  · have e2 : (if -n % ((18446744073709551616 : Nat) : Int) < (((18446744073709551616 : Nat) : Int) + 1) / 2 then -n % ((18446744073709551616 : Nat) : Int) else -n % ((18446744073709551616 : Nat) : Int) - ((18446744073709551616 : Nat) : Int)) = -n := by split <;> omega
    rw [e2] at hm
    split at hm <;> omega
theorem part_ret (n d : Int) (hn : i64 n) : Ret Tryd.prog G0 17 #[.int .i64 n, .int .i64 d] (.bool (partB n d)) := by
  refine ret_of G0F Tryd.func17 rfl Tryd.call17 rfl (by simp) (by simp [Tryd.ntmps17]) ?_
  intro C hC hC0 hY
  obtain ⟨m, hm⟩ : ∃ m, (if n < Int.bmod (-n) 18446744073709551616 then Int.bmod (-n) 18446744073709551616 else n) = m := ⟨_, rfl⟩
  have key := part_max n hn hm
  by_cases c0 : m ≤ 2097152
  · by_cases c1 : -2097152 ≤ n
    · have c4 := key.1 ⟨c0, c1⟩
      by_cases c2 : 0 < d
      · have ep : partB n d = decide (d ≤ 2097152) := by unfold partB; congr 1; simp only [eq_iff_iff]; omega
        rw [ep]
        repeat' (first | refine GW_seq ?_ | simp only [List.length_cons, List.length_nil, Nat.reduceAdd, Nat.reduceMul, wN] | ((first | refine GW_region' [] (by kernel_rfl) ?_ | refine GW_draw' [] follows (by kernel_rfl) (by kernel_rfl) ?_); intro Q hQ hP; simp [hC, hY, hm, c0, c1, c2]; (first | refine hQ _ _ _ _ ?_ | refine hQ _ _ _ _ (by kernel_rfl) ?_ | refine hP _ _ (fun _ => ?_) | refine hP _ _ (by kernel_rfl) (fun _ => ?_)); clear hQ hP Q) | refine GW_block ?_ | refine GW_ret ?_ | refine GW_skip ?_ | refine GW_exit ?_ | refine GW_goto ?_ | refine GW_label ?_ | simp only [blockG_exit] | (refine GW_cond (by simp; rfl) ?_ ?_ <;> (intro hb; first | (exfalso; exact absurd hb (by decide)) | skip)))
        refine ⟨.inr trivial, ?_⟩
        simp [Tryd.results17]
      · have ep : partB n d = false := by unfold partB; simp only [decide_eq_false_iff_not]; omega
        rw [ep]
        repeat' (first | refine GW_seq ?_ | simp only [List.length_cons, List.length_nil, Nat.reduceAdd, Nat.reduceMul, wN] | ((first | refine GW_region' [] (by kernel_rfl) ?_ | refine GW_draw' [] follows (by kernel_rfl) (by kernel_rfl) ?_); intro Q hQ hP; simp [hC, hY, hm, c0, c1, c2]; (first | refine hQ _ _ _ _ ?_ | refine hQ _ _ _ _ (by kernel_rfl) ?_ | refine hP _ _ (fun _ => ?_) | refine hP _ _ (by kernel_rfl) (fun _ => ?_)); clear hQ hP Q) | refine GW_block ?_ | refine GW_ret ?_ | refine GW_skip ?_ | refine GW_exit ?_ | refine GW_goto ?_ | refine GW_label ?_ | simp only [blockG_exit] | (refine GW_cond (by simp; rfl) ?_ ?_ <;> (intro hb; first | (exfalso; exact absurd hb (by decide)) | skip)))
        refine ⟨.inr trivial, ?_⟩
        simp [Tryd.results17]
    · have ep : partB n d = false := by unfold partB; simp only [decide_eq_false_iff_not]; omega
      rw [ep]
      repeat' (first | refine GW_seq ?_ | simp only [List.length_cons, List.length_nil, Nat.reduceAdd, Nat.reduceMul, wN] | ((first | refine GW_region' [] (by kernel_rfl) ?_ | refine GW_draw' [] follows (by kernel_rfl) (by kernel_rfl) ?_); intro Q hQ hP; simp [hC, hY, hm, c0, c1]; (first | refine hQ _ _ _ _ ?_ | refine hQ _ _ _ _ (by kernel_rfl) ?_ | refine hP _ _ (fun _ => ?_) | refine hP _ _ (by kernel_rfl) (fun _ => ?_)); clear hQ hP Q) | refine GW_block ?_ | refine GW_ret ?_ | refine GW_skip ?_ | refine GW_exit ?_ | refine GW_goto ?_ | refine GW_label ?_ | simp only [blockG_exit] | (refine GW_cond (by simp; rfl) ?_ ?_ <;> (intro hb; first | (exfalso; exact absurd hb (by decide)) | skip)))
      refine ⟨.inr trivial, ?_⟩
      simp [Tryd.results17]
  · have ep : partB n d = false := by unfold partB; simp only [decide_eq_false_iff_not]; omega
    rw [ep]
    repeat' (first | refine GW_seq ?_ | simp only [List.length_cons, List.length_nil, Nat.reduceAdd, Nat.reduceMul, wN] | ((first | refine GW_region' [] (by kernel_rfl) ?_ | refine GW_draw' [] follows (by kernel_rfl) (by kernel_rfl) ?_); intro Q hQ hP; simp [hC, hY, hm, c0]; (first | refine hQ _ _ _ _ ?_ | refine hQ _ _ _ _ (by kernel_rfl) ?_ | refine hP _ _ (fun _ => ?_) | refine hP _ _ (by kernel_rfl) (fun _ => ?_)); clear hQ hP Q) | refine GW_block ?_ | refine GW_ret ?_ | refine GW_skip ?_ | refine GW_exit ?_ | refine GW_goto ?_ | refine GW_label ?_ | simp only [blockG_exit] | (refine GW_cond (by simp; rfl) ?_ ?_ <;> (intro hb; first | (exfalso; exact absurd hb (by decide)) | skip)))
    refine ⟨.inr trivial, ?_⟩
    simp [Tryd.results17]
@[simp] theorem dpart (n d : Int) (hn : i64 n) (K : Value → Prop) : callK Tryd.prog G0 17 #[.int .i64 n, .int .i64 d] K ↔ K (.bool (partB n d)) := callK_iff G0W (by kernel_rfl) (part_ret n d hn)
theorem part15_ret (n d : Int) : Ret Tryd.prog G0 18 #[.int .i64 n, .int .i64 d] (.bool (partB n d)) := by
  refine ret_of G0F Tryd.func18 rfl Tryd.call18 rfl (by simp) (by simp [Tryd.ntmps18]) ?_
  intro C hC hC0 hY
  by_cases c0 : -2097152 ≤ n
  · by_cases c1 : n ≤ 2097152
    · by_cases c2 : 1 ≤ d
      · have ep : partB n d = decide (d ≤ 2097152) := by unfold partB; congr 1; simp only [eq_iff_iff]; omega
        rw [ep]
        repeat' (first | refine GW_seq ?_ | simp only [List.length_cons, List.length_nil, Nat.reduceAdd, Nat.reduceMul, wN] | ((first | refine GW_region' [] (by kernel_rfl) ?_ | refine GW_draw' [] follows (by kernel_rfl) (by kernel_rfl) ?_); intro Q hQ hP; simp [hC, hY, c0, c1, c2]; (first | refine hQ _ _ _ _ ?_ | refine hQ _ _ _ _ (by kernel_rfl) ?_ | refine hP _ _ (fun _ => ?_) | refine hP _ _ (by kernel_rfl) (fun _ => ?_)); clear hQ hP Q) | refine GW_block ?_ | refine GW_ret ?_ | refine GW_skip ?_ | refine GW_exit ?_ | refine GW_goto ?_ | refine GW_label ?_ | simp only [blockG_exit] | (refine GW_cond (by simp; rfl) ?_ ?_ <;> (intro hb; first | (exfalso; exact absurd hb (by decide)) | skip)))
        refine ⟨.inr trivial, ?_⟩
        simp [Tryd.results18]
      · have ep : partB n d = false := by unfold partB; simp only [decide_eq_false_iff_not]; omega
        rw [ep]
        repeat' (first | refine GW_seq ?_ | simp only [List.length_cons, List.length_nil, Nat.reduceAdd, Nat.reduceMul, wN] | ((first | refine GW_region' [] (by kernel_rfl) ?_ | refine GW_draw' [] follows (by kernel_rfl) (by kernel_rfl) ?_); intro Q hQ hP; simp [hC, hY, c0, c1, c2]; (first | refine hQ _ _ _ _ ?_ | refine hQ _ _ _ _ (by kernel_rfl) ?_ | refine hP _ _ (fun _ => ?_) | refine hP _ _ (by kernel_rfl) (fun _ => ?_)); clear hQ hP Q) | refine GW_block ?_ | refine GW_ret ?_ | refine GW_skip ?_ | refine GW_exit ?_ | refine GW_goto ?_ | refine GW_label ?_ | simp only [blockG_exit] | (refine GW_cond (by simp; rfl) ?_ ?_ <;> (intro hb; first | (exfalso; exact absurd hb (by decide)) | skip)))
        refine ⟨.inr trivial, ?_⟩
        simp [Tryd.results18]
    · have ep : partB n d = false := by unfold partB; simp only [decide_eq_false_iff_not]; omega
      rw [ep]
      repeat' (first | refine GW_seq ?_ | simp only [List.length_cons, List.length_nil, Nat.reduceAdd, Nat.reduceMul, wN] | ((first | refine GW_region' [] (by kernel_rfl) ?_ | refine GW_draw' [] follows (by kernel_rfl) (by kernel_rfl) ?_); intro Q hQ hP; simp [hC, hY, c0, c1]; (first | refine hQ _ _ _ _ ?_ | refine hQ _ _ _ _ (by kernel_rfl) ?_ | refine hP _ _ (fun _ => ?_) | refine hP _ _ (by kernel_rfl) (fun _ => ?_)); clear hQ hP Q) | refine GW_block ?_ | refine GW_ret ?_ | refine GW_skip ?_ | refine GW_exit ?_ | refine GW_goto ?_ | refine GW_label ?_ | simp only [blockG_exit] | (refine GW_cond (by simp; rfl) ?_ ?_ <;> (intro hb; first | (exfalso; exact absurd hb (by decide)) | skip)))
      refine ⟨.inr trivial, ?_⟩
      simp [Tryd.results18]
  · have ep : partB n d = false := by unfold partB; simp only [decide_eq_false_iff_not]; omega
    rw [ep]
    repeat' (first | refine GW_seq ?_ | simp only [List.length_cons, List.length_nil, Nat.reduceAdd, Nat.reduceMul, wN] | ((first | refine GW_region' [] (by kernel_rfl) ?_ | refine GW_draw' [] follows (by kernel_rfl) (by kernel_rfl) ?_); intro Q hQ hP; simp [hC, hY, c0]; (first | refine hQ _ _ _ _ ?_ | refine hQ _ _ _ _ (by kernel_rfl) ?_ | refine hP _ _ (fun _ => ?_) | refine hP _ _ (by kernel_rfl) (fun _ => ?_)); clear hQ hP Q) | refine GW_block ?_ | refine GW_ret ?_ | refine GW_skip ?_ | refine GW_exit ?_ | refine GW_goto ?_ | refine GW_label ?_ | simp only [blockG_exit] | (refine GW_cond (by simp; rfl) ?_ ?_ <;> (intro hb; first | (exfalso; exact absurd hb (by decide)) | skip)))
    refine ⟨.inr trivial, ?_⟩
    simp [Tryd.results18]
@[simp] theorem dpart15 (n d : Int) (K : Value → Prop) : callK Tryd.prog G0 18 #[.int .i64 n, .int .i64 d] K ↔ K (.bool (partB n d)) := callK_iff G0W (by kernel_rfl) (part15_ret n d)
/-- One's error, and what it tells. -/
def d1E (v n d : Int) : Int := if partB n d = true ∧ -1073741824 ≤ v ∧ v ≤ 1073741824 then 0 else 2
def d1V (v n d : Int) : Int := if partB n d = true ∧ -1073741824 ≤ v ∧ v ≤ 1073741824 then nearQ (v * n) d else 0
theorem partB_t {n d : Int} (h : partB n d = true) : -2097152 ≤ n ∧ n ≤ 2097152 ∧ 1 ≤ d ∧ d ≤ 2097152 := by unfold partB at h; exact of_decide_eq_true h
theorem abs_mul {a b p q : Int} (h1 : -p ≤ a) (h2 : a ≤ p) (h3 : -q ≤ b) (h4 : b ≤ q) : -(p * q) ≤ a * b ∧ a * b ≤ p * q := by
  have hp : 0 ≤ p := by omega
  have hq : 0 ≤ q := by omega
  have e1 : 0 ≤ (p - a) * (q + b) := Int.mul_nonneg (by omega) (by omega)
  have e2 : 0 ≤ (p + a) * (q - b) := Int.mul_nonneg (by omega) (by omega)
  have e3 : 0 ≤ (p - a) * (q - b) := Int.mul_nonneg (by omega) (by omega)
  have e4 : 0 ≤ (p + a) * (q + b) := Int.mul_nonneg (by omega) (by omega)
  simp only [Int.sub_mul, Int.add_mul, Int.mul_sub, Int.mul_add] at e1 e2 e3 e4
  generalize p * q = u at *
  generalize a * b = w at *
  generalize p * b = x at *
  generalize a * q = y at *
  omega
theorem d1_bd {v n d : Int} (h : partB n d = true) (h1 : -1073741824 ≤ v) (h2 : v ≤ 1073741824) : (-2251799813685248 ≤ v * n ∧ v * n ≤ 2251799813685248) ∧ (-2251799813685248 ≤ nearQ (v * n) d ∧ nearQ (v * n) d ≤ 2251799813685248) := by
  obtain ⟨p1, p2, p3, p4⟩ := partB_t h
  have hm := abs_mul (p := 1073741824) (q := 2097152) h1 h2 p1 p2
  exact ⟨hm, nearQ_bd (by omega) hm.1 hm.2 (by decide)⟩
theorem i64_of {z : Int} (h : -2251799813685248 ≤ z ∧ z ≤ 2251799813685248) : i64 z := ⟨by omega, by omega⟩
theorem sm_of {z : Int} (h : -2251799813685248 ≤ z ∧ z ≤ 2251799813685248) : sm z := (i64_of h).sm
theorem d1_ret (v n d : Int) (hv : i64 v) (hn : i64 n) (hd : i64 d) : Ret Tryd.prog G0 13 #[.int .i64 v, .int .i64 n, .int .i64 d] (.tuple #[.int .i64 (d1V v n d), .int .i64 (d1E v n d)]) := by
  refine ret_of G0F Tryd.func13 rfl Tryd.call13 (by simp) (by simp) (by simp [Tryd.ntmps13]) ?_
  intro C hC hC0 hY
  cases hp : partB n d with
  | false =>
    have e1 : d1E v n d = 2 := by unfold d1E; rw [if_neg (by simp [hp])]
    have e2 : d1V v n d = 0 := by unfold d1V; rw [if_neg (by simp [hp])]
    rw [e1, e2]
    repeat' (first | refine GW_seq ?_ | simp only [List.length_cons, List.length_nil, Nat.reduceAdd, Nat.reduceMul, wN] | ((first | refine GW_region' [] (by kernel_rfl) ?_ | refine GW_draw' [] follows (by kernel_rfl) (by kernel_rfl) ?_); intro Q hQ hP; simp [hC, hY, hn, hp]; (first | refine hQ _ _ _ _ ?_ | refine hQ _ _ _ _ (by kernel_rfl) ?_ | refine hP _ _ (fun _ => ?_) | refine hP _ _ (by kernel_rfl) (fun _ => ?_)); clear hQ hP Q) | refine GW_block ?_ | refine GW_ret ?_ | refine GW_skip ?_ | refine GW_exit ?_ | refine GW_goto ?_ | refine GW_label ?_ | simp only [blockG_exit] | (refine GW_cond (by simp; rfl) ?_ ?_ <;> (intro hb; first | (exfalso; exact absurd hb (by decide)) | skip)))
    refine ⟨.inr trivial, ?_⟩
    simp [Tryd.results13]
  | true =>
    by_cases c1 : v < -1073741824
    · have e1 : d1E v n d = 2 := by unfold d1E; rw [if_neg (by omega)]
      have e2 : d1V v n d = 0 := by unfold d1V; rw [if_neg (by omega)]
      rw [e1, e2]
      repeat' (first | refine GW_seq ?_ | simp only [List.length_cons, List.length_nil, Nat.reduceAdd, Nat.reduceMul, wN] | ((first | refine GW_region' [] (by kernel_rfl) ?_ | refine GW_draw' [] follows (by kernel_rfl) (by kernel_rfl) ?_); intro Q hQ hP; simp [hC, hY, hn, hp, c1]; (first | refine hQ _ _ _ _ ?_ | refine hQ _ _ _ _ (by kernel_rfl) ?_ | refine hP _ _ (fun _ => ?_) | refine hP _ _ (by kernel_rfl) (fun _ => ?_)); clear hQ hP Q) | refine GW_block ?_ | refine GW_ret ?_ | refine GW_skip ?_ | refine GW_exit ?_ | refine GW_goto ?_ | refine GW_label ?_ | simp only [blockG_exit] | (refine GW_cond (by simp; rfl) ?_ ?_ <;> (intro hb; first | (exfalso; exact absurd hb (by decide)) | skip)))
      refine ⟨.inr trivial, ?_⟩
      simp [Tryd.results13]
    · by_cases c2 : 1073741824 < v
      · have e1 : d1E v n d = 2 := by unfold d1E; rw [if_neg (by omega)]
        have e2 : d1V v n d = 0 := by unfold d1V; rw [if_neg (by omega)]
        rw [e1, e2]
        repeat' (first | refine GW_seq ?_ | simp only [List.length_cons, List.length_nil, Nat.reduceAdd, Nat.reduceMul, wN] | ((first | refine GW_region' [] (by kernel_rfl) ?_ | refine GW_draw' [] follows (by kernel_rfl) (by kernel_rfl) ?_); intro Q hQ hP; simp [hC, hY, hn, hp, c1, c2]; (first | refine hQ _ _ _ _ ?_ | refine hQ _ _ _ _ (by kernel_rfl) ?_ | refine hP _ _ (fun _ => ?_) | refine hP _ _ (by kernel_rfl) (fun _ => ?_)); clear hQ hP Q) | refine GW_block ?_ | refine GW_ret ?_ | refine GW_skip ?_ | refine GW_exit ?_ | refine GW_goto ?_ | refine GW_label ?_ | simp only [blockG_exit] | (refine GW_cond (by simp; rfl) ?_ ?_ <;> (intro hb; first | (exfalso; exact absurd hb (by decide)) | skip)))
        refine ⟨.inr trivial, ?_⟩
        simp [Tryd.results13]
      · have e1 : d1E v n d = 0 := by unfold d1E; rw [if_pos ⟨hp, by omega, by omega⟩]
        have e2 : d1V v n d = nearQ (v * n) d := by unfold d1V; rw [if_pos ⟨hp, by omega, by omega⟩]
        rw [e1, e2]
        have b := d1_bd (v := v) hp (by omega) (by omega)
        have s1 := sm_of b.1
        have s2 := i64_of b.2
        have d0 : 0 < d := by have := partB_t hp; omega
        repeat' (first | refine GW_seq ?_ | simp only [List.length_cons, List.length_nil, Nat.reduceAdd, Nat.reduceMul, wN] | ((first | refine GW_region' [] (by kernel_rfl) ?_ | refine GW_draw' [] follows (by kernel_rfl) (by kernel_rfl) ?_); intro Q hQ hP; simp [hC, hY, hn, hv, hd, hp, c1, c2, s1, s2, d0]; (first | refine hQ _ _ _ _ ?_ | refine hQ _ _ _ _ (by kernel_rfl) ?_ | refine hP _ _ (fun _ => ?_) | refine hP _ _ (by kernel_rfl) (fun _ => ?_)); clear hQ hP Q) | refine GW_block ?_ | refine GW_ret ?_ | refine GW_skip ?_ | refine GW_exit ?_ | refine GW_goto ?_ | refine GW_label ?_ | simp only [blockG_exit] | (refine GW_cond (by simp; rfl) ?_ ?_ <;> (intro hb; first | (exfalso; exact absurd hb (by decide)) | skip)))
        refine ⟨.inr trivial, ?_⟩
        simp [Tryd.results13]
@[simp] theorem d1c (v n d : Int) (hv : i64 v) (hn : i64 n) (hd : i64 d) (K : Value → Prop) : callK Tryd.prog G0 13 #[.int .i64 v, .int .i64 n, .int .i64 d] K ↔ K (.tuple #[.int .i64 (d1V v n d), .int .i64 (d1E v n d)]) := callK_iff G0W (by kernel_rfl) (d1_ret v n d hv hn hd)
end Go.Gy
namespace Go.Gy
set_option linter.unusedSimpArgs false
set_option linter.unusedVariables false
open Go Go.RowKit Go.Proofs
def wyE (v0 v1 v2 n d : Int) : Int := if d1E v0 n d = 0 then (if d1E v1 n d = 0 then d1E v2 n d else d1E v1 n d) else d1E v0 n d
theorem d1E_or (v n d : Int) : d1E v n d = 0 ∨ d1E v n d = 2 := by unfold d1E; split <;> simp
theorem wyE_0 {v0 v1 v2 n d : Int} (h0 : d1E v0 n d = 2) : wyE v0 v1 v2 n d = 2 := by unfold wyE; rw [if_neg (by omega)]; exact h0
theorem wyE_1 {v0 v1 v2 n d : Int} (h0 : d1E v0 n d = 0) (h1 : d1E v1 n d = 2) : wyE v0 v1 v2 n d = 2 := by unfold wyE; rw [if_pos h0, if_neg (by omega)]; exact h1
theorem wyE_2 {v0 v1 v2 n d : Int} (h0 : d1E v0 n d = 0) (h1 : d1E v1 n d = 0) : wyE v0 v1 v2 n d = d1E v2 n d := by unfold wyE; rw [if_pos h0, if_pos h1]
set_option maxRecDepth 8000 in
theorem way_ret (v0 v1 v2 n d : Int) (h0 : i64 v0) (h1 : i64 v1) (h2 : i64 v2) (hn : i64 n) (hd : i64 d) : Ret Tryd.prog G0 15 #[.agg #[.int .i64 v0, .int .i64 v1, .int .i64 v2], .int .i64 n, .int .i64 d]
    (.tuple #[.agg #[.int .i64 (eaV (wyE v0 v1 v2 n d) (d1V v0 n d)), .int .i64 (eaV (wyE v0 v1 v2 n d) (d1V v1 n d)), .int .i64 (eaV (wyE v0 v1 v2 n d) (d1V v2 n d))], .int .i64 (wyE v0 v1 v2 n d)]) := by
  refine ret_of G0F Tryd.func15 rfl Tryd.call15 (by simp) (by simp) (by simp [Tryd.ntmps15]) ?_
  intro C hC hC0 hY
  rcases d1E_or v0 n d with c0 | c0
  · rcases d1E_or v1 n d with c1 | c1
    · rcases d1E_or v2 n d with c2 | c2
      · have e := wyE_2 (v2 := v2) c0 c1
        rw [e, c2]
        repeat' (first | refine GW_seq ?_ | refine GWL_start ?_ | refine GWL_step ?_ | simp only [List.length_cons, List.length_nil, Nat.reduceAdd, Nat.reduceMul, wN] | ((first | refine GW_region' [] (by kernel_rfl) ?_ | refine GW_draw' [] follows (by kernel_rfl) (by kernel_rfl) ?_); intro Q hQ hP; simp [hC, hY, h0, h1, h2, hn, hd, c0, c1, c2]; (first | refine hQ _ _ _ _ ?_ | refine hQ _ _ _ _ (by kernel_rfl) ?_ | refine hP _ _ (fun _ => ?_) | refine hP _ _ (by kernel_rfl) (fun _ => ?_)); clear hQ hP Q) | refine GW_block ?_ | refine GW_ret ?_ | refine GW_skip ?_ | refine GW_exit ?_ | refine GW_goto ?_ | refine GW_label ?_ | simp only [blockG_exit] | (refine GW_cond (by simp; rfl) ?_ ?_ <;> (intro hb; first | (exfalso; exact absurd hb (by decide)) | skip)))
        refine ⟨.inr trivial, ?_⟩
        simp [Tryd.results15, eaV]
      · have e := wyE_2 (v2 := v2) c0 c1
        rw [e, c2]
        repeat' (first | refine GW_seq ?_ | refine GWL_start ?_ | refine GWL_step ?_ | simp only [List.length_cons, List.length_nil, Nat.reduceAdd, Nat.reduceMul, wN] | ((first | refine GW_region' [] (by kernel_rfl) ?_ | refine GW_draw' [] follows (by kernel_rfl) (by kernel_rfl) ?_); intro Q hQ hP; simp [hC, hY, h0, h1, h2, hn, hd, c0, c1, c2]; (first | refine hQ _ _ _ _ ?_ | refine hQ _ _ _ _ (by kernel_rfl) ?_ | refine hP _ _ (fun _ => ?_) | refine hP _ _ (by kernel_rfl) (fun _ => ?_)); clear hQ hP Q) | refine GW_block ?_ | refine GW_ret ?_ | refine GW_skip ?_ | refine GW_exit ?_ | refine GW_goto ?_ | refine GW_label ?_ | simp only [blockG_exit] | (refine GW_cond (by simp; rfl) ?_ ?_ <;> (intro hb; first | (exfalso; exact absurd hb (by decide)) | skip)))
        refine ⟨.inr trivial, ?_⟩
        simp [Tryd.results15, eaV]
    · have e := wyE_1 (v2 := v2) c0 c1
      rw [e]
      repeat' (first | refine GW_seq ?_ | refine GWL_start ?_ | refine GWL_step ?_ | simp only [List.length_cons, List.length_nil, Nat.reduceAdd, Nat.reduceMul, wN] | ((first | refine GW_region' [] (by kernel_rfl) ?_ | refine GW_draw' [] follows (by kernel_rfl) (by kernel_rfl) ?_); intro Q hQ hP; simp [hC, hY, h0, h1, h2, hn, hd, c0, c1]; (first | refine hQ _ _ _ _ ?_ | refine hQ _ _ _ _ (by kernel_rfl) ?_ | refine hP _ _ (fun _ => ?_) | refine hP _ _ (by kernel_rfl) (fun _ => ?_)); clear hQ hP Q) | refine GW_block ?_ | refine GW_ret ?_ | refine GW_skip ?_ | refine GW_exit ?_ | refine GW_goto ?_ | refine GW_label ?_ | simp only [blockG_exit] | (refine GW_cond (by simp; rfl) ?_ ?_ <;> (intro hb; first | (exfalso; exact absurd hb (by decide)) | skip)))
      refine ⟨.inr trivial, ?_⟩
      simp [Tryd.results15, eaV]
  · have e := wyE_0 (v1 := v1) (v2 := v2) c0
    rw [e]
    repeat' (first | refine GW_seq ?_ | refine GWL_start ?_ | refine GWL_step ?_ | simp only [List.length_cons, List.length_nil, Nat.reduceAdd, Nat.reduceMul, wN] | ((first | refine GW_region' [] (by kernel_rfl) ?_ | refine GW_draw' [] follows (by kernel_rfl) (by kernel_rfl) ?_); intro Q hQ hP; simp [hC, hY, h0, h1, h2, hn, hd, c0]; (first | refine hQ _ _ _ _ ?_ | refine hQ _ _ _ _ (by kernel_rfl) ?_ | refine hP _ _ (fun _ => ?_) | refine hP _ _ (by kernel_rfl) (fun _ => ?_)); clear hQ hP Q) | refine GW_block ?_ | refine GW_ret ?_ | refine GW_skip ?_ | refine GW_exit ?_ | refine GW_goto ?_ | refine GW_label ?_ | simp only [blockG_exit] | (refine GW_cond (by simp; rfl) ?_ ?_ <;> (intro hb; first | (exfalso; exact absurd hb (by decide)) | skip)))
    refine ⟨.inr trivial, ?_⟩
    simp [Tryd.results15, eaV]
@[simp] theorem dway (v0 v1 v2 n d : Int) (h0 : i64 v0) (h1 : i64 v1) (h2 : i64 v2) (hn : i64 n) (hd : i64 d) (K : Value → Prop) : callK Tryd.prog G0 15 #[.agg #[.int .i64 v0, .int .i64 v1, .int .i64 v2], .int .i64 n, .int .i64 d] K ↔
    K (.tuple #[.agg #[.int .i64 (eaV (wyE v0 v1 v2 n d) (d1V v0 n d)), .int .i64 (eaV (wyE v0 v1 v2 n d) (d1V v1 n d)), .int .i64 (eaV (wyE v0 v1 v2 n d) (d1V v2 n d))], .int .i64 (wyE v0 v1 v2 n d)]) := callK_iff G0W (by kernel_rfl) (way_ret v0 v1 v2 n d h0 h1 h2 hn hd)
/-- drift.ways's first closure. -/
theorem dw1_fun (v0 v1 v2 n d : Int) (h0 : i64 v0) (h1 : i64 v1) (h2 : i64 v2) (hn : i64 n) (hd : i64 d) : Fun Tryd.prog G0 79 #[.agg #[.int .i64 v0, .int .i64 v1, .int .i64 v2], .pointer (some ⟨100, 0, none⟩), .pointer (some ⟨108, 0, none⟩)] (hpL G0 [(100, jb n), (108, jb d)]) (keys [(100, jb n), (108, jb d)])
    (.ret (.agg #[.int .i64 (eaV (wyE v0 v1 v2 n d) (d1V v0 n d)), .int .i64 (eaV (wyE v0 v1 v2 n d) (d1V v1 n d)), .int .i64 (eaV (wyE v0 v1 v2 n d) (d1V v2 n d))]) []) := by
  refine fun_ofL (B := 200) G0F Tryd.func79 rfl Tryd.call79 ⟨by simp, by simp [keys], by simp [jb, ids_lit, idsF, ids0]⟩ ?_ (by simp) (by simp) (by simp) (by simp [Tryd.ntmps79]) (by omega) ?_
  · simp [idsV, idsA, idsF, ids0, keys]
  intro C hC hC0 hY
  repeat' (first | refine GW_seq ?_ | simp only [List.length_cons, List.length_nil, Nat.reduceAdd, Nat.reduceMul, wN] | ((first | refine GW_region' [] (by kernel_rfl) ?_ | refine GW_draw' [] follows (by kernel_rfl) (by kernel_rfl) ?_); intro Q hQ hP; simp [hC, hY, jb, h0, h1, h2, hn, hd]; (first | refine hQ _ _ _ _ ?_ | refine hQ _ _ _ _ (by kernel_rfl) ?_ | refine hP _ _ (fun _ => ?_) | refine hP _ _ (by kernel_rfl) (fun _ => ?_)); clear hQ hP Q) | refine GW_block ?_ | refine GW_ret ?_ | refine GW_skip ?_ | refine GW_exit ?_ | refine GW_goto ?_ | refine GW_label ?_ | simp only [blockG_exit] | (refine GW_cond (by simp; rfl) ?_ ?_ <;> (intro hb; first | (exfalso; exact absurd hb (by decide)) | skip)))
  refine ⟨.inr rfl, by simp [Tryd.results79], keep_of G0F (by simp [jb]) (by (intro k hk; first | rfl | (simp (disch := omega) only [addB, List.mem_cons, List.not_mem_nil, or_false, upd_other, hpL_cons, hpL_nil, if_neg, updL] <;> done)))⟩
end Go.Gy
namespace Go.Gy
set_option linter.unusedSimpArgs false
set_option linter.unusedVariables false
open Go Go.RowKit Go.Proofs
/-- A state's bodies: n of them, in block b from off on. -/
structure SB (b : Blk) (off n : Nat) (f : Nat → Int) : Prop where
  rd : rdI b off (6 * n) f
  fx : b.fx
  i6 : ∀ j, j < 6 * n → i64 (f j)
  nn : n ≤ 1048576
/-- Body i is within. -/
def inB (bx tp : Int) (f : Nat → Int) (i : Nat) : Bool := inV bx (f (6 * i)) (f (6 * i + 1)) (f (6 * i + 2)) && inV tp (f (6 * i + 3)) (f (6 * i + 4)) (f (6 * i + 5))
theorem SB.body {b : Blk} {off n : Nat} {f : Nat → Int} (h : SB b off n f) {i : Nat} (hi : i < n) : loadK Tryd.prog 44 b (off + i * 6) = some (.agg #[.int .i64 (f (6 * i)), .int .i64 (f (6 * i + 1)), .int .i64 (f (6 * i + 2)), .int .i64 (f (6 * i + 3)), .int .i64 (f (6 * i + 4)), .int .i64 (f (6 * i + 5))]) := by
  have := loadK_rd (P := Tryd.prog) (T := 44) (m := 6) (j := 6 * i) (tyAgg_of Tryd.isAgg44) (tySize_of Tryd.sizeOf44) (by omega) h.rd (by omega)
  rw [show off + i * 6 = off + 6 * i by omega, this, fa_6]
  rfl
theorem SB.i {b : Blk} {off n : Nat} {f : Nat → Int} (h : SB b off n f) {i : Nat} (hi : i < n) (q : Nat) (hq : q < 6) : i64 (f (6 * i + q)) := h.i6 _ (by omega)
/-! Within's closure -/
theorem wi1_fun (bx tp x0 x1 x2 v0 v1 v2 : Int) (hbx : i64 bx) (htp : i64 tp) (h0 : i64 x0) (h1 : i64 x1) (h2 : i64 x2) (h3 : i64 v0) (h4 : i64 v1) (h5 : i64 v2) :
    Fun Tryd.prog G0 111 #[.agg #[.int .i64 x0, .int .i64 x1, .int .i64 x2, .int .i64 v0, .int .i64 v1, .int .i64 v2], .pointer (some ⟨100, 0, none⟩), .pointer (some ⟨108, 0, none⟩)] (hpL G0 [(100, jb bx), (108, jb tp)]) (keys [(100, jb bx), (108, jb tp)]) (.ret (.bool !(inV bx x0 x1 x2 && inV tp v0 v1 v2)) []) := by
  refine fun_ofL (B := 200) G0F Tryd.func111 rfl Tryd.call111 ⟨by simp, by simp [keys], by simp [jb, ids_lit, idsF, ids0]⟩ ?_ (by simp) (by simp) (by simp) (by simp [Tryd.ntmps111]) (by omega) ?_
  · simp [idsV, idsA, idsF, ids0, keys]
  intro C hC hC0 hY
  cases c0 : inV bx x0 x1 x2 with
  | true =>
    cases c1 : inV tp v0 v1 v2 with
    | true =>
      repeat' (first | refine GW_seq ?_ | simp only [List.length_cons, List.length_nil, Nat.reduceAdd, Nat.reduceMul, wN] | ((first | refine GW_region' [] (by kernel_rfl) ?_ | refine GW_draw' [] follows (by kernel_rfl) (by kernel_rfl) ?_); intro Q hQ hP; simp [hC, hY, jb, hbx, htp, h0, h1, h2, h3, h4, h5, c0, c1]; (first | refine hQ _ _ _ _ ?_ | refine hQ _ _ _ _ (by kernel_rfl) ?_ | refine hP _ _ (fun _ => ?_) | refine hP _ _ (by kernel_rfl) (fun _ => ?_)); clear hQ hP Q) | refine GW_block ?_ | refine GW_ret ?_ | refine GW_skip ?_ | refine GW_exit ?_ | refine GW_goto ?_ | refine GW_label ?_ | simp only [blockG_exit] | (refine GW_cond (by simp; rfl) ?_ ?_ <;> (intro hb; first | (exfalso; exact absurd hb (by decide)) | skip)))
      refine ⟨.inr rfl, by simp [Tryd.results111], keep_of G0F (by simp [jb]) (by (intro k hk; first | rfl | (simp (disch := omega) only [addB, List.mem_cons, List.not_mem_nil, or_false, upd_other, hpL_cons, hpL_nil, if_neg, updL] <;> done)))⟩
    | false =>
      repeat' (first | refine GW_seq ?_ | simp only [List.length_cons, List.length_nil, Nat.reduceAdd, Nat.reduceMul, wN] | ((first | refine GW_region' [] (by kernel_rfl) ?_ | refine GW_draw' [] follows (by kernel_rfl) (by kernel_rfl) ?_); intro Q hQ hP; simp [hC, hY, jb, hbx, htp, h0, h1, h2, h3, h4, h5, c0, c1]; (first | refine hQ _ _ _ _ ?_ | refine hQ _ _ _ _ (by kernel_rfl) ?_ | refine hP _ _ (fun _ => ?_) | refine hP _ _ (by kernel_rfl) (fun _ => ?_)); clear hQ hP Q) | refine GW_block ?_ | refine GW_ret ?_ | refine GW_skip ?_ | refine GW_exit ?_ | refine GW_goto ?_ | refine GW_label ?_ | simp only [blockG_exit] | (refine GW_cond (by simp; rfl) ?_ ?_ <;> (intro hb; first | (exfalso; exact absurd hb (by decide)) | skip)))
      refine ⟨.inr rfl, by simp [Tryd.results111], keep_of G0F (by simp [jb]) (by (intro k hk; first | rfl | (simp (disch := omega) only [addB, List.mem_cons, List.not_mem_nil, or_false, upd_other, hpL_cons, hpL_nil, if_neg, updL] <;> done)))⟩
  | false =>
    repeat' (first | refine GW_seq ?_ | simp only [List.length_cons, List.length_nil, Nat.reduceAdd, Nat.reduceMul, wN] | ((first | refine GW_region' [] (by kernel_rfl) ?_ | refine GW_draw' [] follows (by kernel_rfl) (by kernel_rfl) ?_); intro Q hQ hP; simp [hC, hY, jb, hbx, htp, h0, h1, h2, h3, h4, h5, c0]; (first | refine hQ _ _ _ _ ?_ | refine hQ _ _ _ _ (by kernel_rfl) ?_ | refine hP _ _ (fun _ => ?_) | refine hP _ _ (by kernel_rfl) (fun _ => ?_)); clear hQ hP Q) | refine GW_block ?_ | refine GW_ret ?_ | refine GW_skip ?_ | refine GW_exit ?_ | refine GW_goto ?_ | refine GW_label ?_ | simp only [blockG_exit] | (refine GW_cond (by simp; rfl) ?_ ?_ <;> (intro hb; first | (exfalso; exact absurd hb (by decide)) | skip)))
    refine ⟨.inr rfl, by simp [Tryd.results111], keep_of G0F (by simp [jb]) (by (intro k hk; first | rfl | (simp (disch := omega) only [addB, List.mem_cons, List.not_mem_nil, or_false, upd_other, hpL_cons, hpL_nil, if_neg, updL] <;> done)))⟩
theorem jb_rn {m : Int} {ρ : Nat → Nat} : (jb m).rn ρ = jb m := by simp [jb, Blk.rn, renF, ren0]
/-! IndexFunc -/
def ixSt (b : Blk) (off n cap : Nat) (bx tp : Int) (i : Nat) : GS :=
  ⟨tsL [(0, .slice (some ⟨100, off, none⟩) n cap), (1, .func (.func 111) #[] #[.pointer (some ⟨108, 0, none⟩), .pointer (some ⟨116, 0, none⟩)]), (7, .int .i64 n), (8, .int .i64 i)],
   hpL G0 [(100, b), (108, jb bx), (116, jb tp)], 300, 0⟩
def ixL (b : Blk) (bx tp : Int) : List (Nat × Blk) := [(100, b), (108, jb bx), (116, jb tp)]
theorem ixL_ok {b : Blk} (hb : b.fx) (bx tp : Int) : LOk (ixL b bx tp) 200 := ⟨by simp [ixL], by simp [ixL, keys], by
  simp only [ixL, List.mem_cons, List.not_mem_nil, or_false, forall_eq_or_imp, forall_eq]
  exact ⟨Blk.fx_ids hb _, by simp [jb, ids_lit, idsF, ids0], by simp [jb, ids_lit, idsF, ids0]⟩⟩
theorem ix_fun (b : Blk) (off n cap : Nat) (f : Nat → Int) (h : SB b off n f) (bx tp : Int) (hbx : i64 bx) (htp : i64 tp) (N : Nat) (hN : N ≤ n) (hlt : ∀ i, i < N → inB bx tp f i = true) (hend : N = n ∨ inB bx tp f N = false) :
    Fun Tryd.prog G0 129 #[.slice (some ⟨100, off, none⟩) n cap, .func (.func 111) #[] #[.pointer (some ⟨108, 0, none⟩), .pointer (some ⟨116, 0, none⟩)]] (hpL G0 (ixL b bx tp)) (keys (ixL b bx tp)) (.ret (.int .i64 (if N = n then -1 else N)) []) := by
  refine fun_ofL (B := 200) G0F Tryd.func129 rfl Tryd.call129 (ixL_ok h.fx bx tp) ?_ (by simp) (by simp) (by simp) (by simp [Tryd.ntmps129]) (by omega) ?_
  · simp [idsV, idsA, idsF, ids0, keys, ixL]
  intro C hC hC0 hY
  have hnn := h.nn
  unfold ixL
  repeat' (first | refine GW_seq ?_ | simp only [List.length_cons, List.length_nil, Nat.reduceAdd, Nat.reduceMul, wN] | ((first | refine GW_region' [] (by kernel_rfl) ?_ | refine GW_draw' [] follows (by kernel_rfl) (by kernel_rfl) ?_); intro Q hQ hP; simp [hC, hY]; (first | refine hQ _ _ _ _ ?_ | refine hQ _ _ _ _ (by kernel_rfl) ?_ | refine hP _ _ (fun _ => ?_) | refine hP _ _ (by kernel_rfl) (fun _ => ?_)); clear hQ hP Q) | refine GW_block ?_ | refine GW_ret ?_ | refine GW_skip ?_ | refine GW_exit ?_ | refine GW_goto ?_ | refine GW_label ?_ | simp only [blockG_exit] | (refine GW_cond (by simp; rfl) ?_ ?_ <;> (intro hb; first | (exfalso; exact absurd hb (by decide)) | skip)))
  refine GW_for N (ixSt b off n cap bx tp) ?_ ?_ ?_
  · refine weakL _ 300 hC G0F (m0 := [(100, b), (108, jb bx), (116, jb tp)]) hC0 (by omega) ?_ ?_ ?_
    · simp [idsV, idsA, idsF, ids0, dom]
    · have hi := fun D => Blk.fx_ids h.fx D
      simp [ids_lit, idsF, ids0, jb, hi]
    · simp
  · intro i hi
    have hin : i < n := by omega
    have hi' : (i : Int) < n := by omega
    have hz : (0 : Int) ≤ i := by omega
    have hs : Int.bmod ((i : Int) + 1) 18446744073709551616 = ((i + 1 : Nat) : Int) := by rw [bm (by omega) (by omega)]; rfl
    have hld := h.body hin
    have hq := hlt i hi
    unfold inB at hq
    rw [Bool.and_eq_true] at hq
    obtain ⟨q1, q2⟩ := hq
    unfold ixSt
    repeat' (first | refine GW_seq ?_ | simp only [List.length_cons, List.length_nil, Nat.reduceAdd, Nat.reduceMul, wN] | ((first | refine GW_region' [111] (by kernel_rfl) ?_ | refine GW_draw' [111] follows (by kernel_rfl) (by kernel_rfl) ?_); intro Q hQ hP; simp [hC, hY, hi, hi', hz, hs, hld, q1, q2, jb]; (repeat ((first | (refine heapK_mv (wi1_fun bx tp _ _ _ _ _ _ hbx htp (h.i hin 0 (by omega)) (h.i hin 1 (by omega)) (h.i hin 2 (by omega)) (h.i hin 3 (by omega)) (h.i hin 4 (by omega)) (h.i hin 5 (by omega))) G0F (B := 200) ⟨by simp, by simp [keys], by simp [jb, ids_lit, idsF, ids0]⟩ (fun k => if k = 100 then 108 else if k = 108 then 116 else k) (fun k hk => (if_neg (by omega)).trans (if_neg (by omega))) (by simp [ren, renA, renF, ren0]) (by simp) (by simp [jb, Blk.rn, renF, ren0]) (by simp [keys]) (by simp [keys]; rfl) ?_)); try simp [hC, hY, hi, hi', hz, hs, hld, q1, q2, jb])); (first | refine hQ _ _ _ _ ?_ | refine hQ _ _ _ _ (by kernel_rfl) ?_ | refine hP _ _ (fun _ => ?_) | refine hP _ _ (by kernel_rfl) (fun _ => ?_)); clear hQ hP Q) | refine GW_block ?_ | refine GW_ret ?_ | refine GW_skip ?_ | refine GW_exit ?_ | refine GW_goto ?_ | refine GW_label ?_ | simp only [blockG_exit] | (refine GW_cond (by simp; rfl) ?_ ?_ <;> (intro hb; first | (exfalso; exact absurd hb (by decide)) | skip)))
    refine weakL _ 300 hC G0F (m0 := [(100, b), (108, jb bx), (116, jb tp)]) hC0 (by omega) ?_ ?_ ?_
    · simp [idsV, idsA, idsF, ids0, dom, hs]
    · have hi := fun D => Blk.fx_ids h.fx D
      simp [ids_lit, idsF, ids0, jb, hi]
    · simp [jb]
  · by_cases hNn : N = n
    · subst hNn
      simp only [if_true]
      unfold ixSt
      repeat' (first | refine GW_seq ?_ | simp only [List.length_cons, List.length_nil, Nat.reduceAdd, Nat.reduceMul, wN] | ((first | refine GW_region' [] (by kernel_rfl) ?_ | refine GW_draw' [] follows (by kernel_rfl) (by kernel_rfl) ?_); intro Q hQ hP; simp [hC, hY]; (first | refine hQ _ _ _ _ ?_ | refine hQ _ _ _ _ (by kernel_rfl) ?_ | refine hP _ _ (fun _ => ?_) | refine hP _ _ (by kernel_rfl) (fun _ => ?_)); clear hQ hP Q) | refine GW_block ?_ | refine GW_ret ?_ | refine GW_skip ?_ | refine GW_exit ?_ | refine GW_goto ?_ | refine GW_label ?_ | simp only [blockG_exit] | (refine GW_cond (by simp; rfl) ?_ ?_ <;> (intro hb; first | (exfalso; exact absurd hb (by decide)) | skip)))
      refine ⟨.inr rfl, by simp [Tryd.results129], keep_of G0F (by simp) (by (intro k hk; first | rfl | (simp (disch := omega) only [addB, List.mem_cons, List.not_mem_nil, or_false, upd_other, hpL_cons, hpL_nil, if_neg, updL] <;> done)))⟩
    · have hin : N < n := by omega
      have hi' : (N : Int) < n := by omega
      have hz : (0 : Int) ≤ N := by omega
      have hld := h.body hin
      have hq := hend.resolve_left hNn
      unfold inB at hq
      rw [if_neg hNn]
      unfold ixSt
      cases q1 : inV bx (f (6 * N)) (f (6 * N + 1)) (f (6 * N + 2)) with
      | false =>
        repeat' (first | refine GW_seq ?_ | simp only [List.length_cons, List.length_nil, Nat.reduceAdd, Nat.reduceMul, wN] | ((first | refine GW_region' [111] (by kernel_rfl) ?_ | refine GW_draw' [111] follows (by kernel_rfl) (by kernel_rfl) ?_); intro Q hQ hP; simp [hC, hY, hin, hi', hz, hld, q1, jb]; (repeat ((first | (refine heapK_mv (wi1_fun bx tp _ _ _ _ _ _ hbx htp (h.i hin 0 (by omega)) (h.i hin 1 (by omega)) (h.i hin 2 (by omega)) (h.i hin 3 (by omega)) (h.i hin 4 (by omega)) (h.i hin 5 (by omega))) G0F (B := 200) ⟨by simp, by simp [keys], by simp [jb, ids_lit, idsF, ids0]⟩ (fun k => if k = 100 then 108 else if k = 108 then 116 else k) (fun k hk => (if_neg (by omega)).trans (if_neg (by omega))) (by simp [ren, renA, renF, ren0]) (by simp) (by simp [jb, Blk.rn, renF, ren0]) (by simp [keys]) (by simp [keys]; rfl) ?_)); try simp [hC, hY, hin, hi', hz, hld, q1, jb])); (first | refine hQ _ _ _ _ ?_ | refine hQ _ _ _ _ (by kernel_rfl) ?_ | refine hP _ _ (fun _ => ?_) | refine hP _ _ (by kernel_rfl) (fun _ => ?_)); clear hQ hP Q) | refine GW_block ?_ | refine GW_ret ?_ | refine GW_skip ?_ | refine GW_exit ?_ | refine GW_goto ?_ | refine GW_label ?_ | simp only [blockG_exit] | (refine GW_cond (by simp; rfl) ?_ ?_ <;> (intro hb; first | (exfalso; exact absurd hb (by decide)) | skip)))
        refine ⟨.inr rfl, by simp [Tryd.results129], keep_of G0F (by simp [jb]) (by (intro k hk; first | rfl | (simp (disch := omega) only [addB, List.mem_cons, List.not_mem_nil, or_false, upd_other, hpL_cons, hpL_nil, if_neg, updL] <;> done)))⟩
      | true =>
        have q2 : inV tp (f (6 * N + 3)) (f (6 * N + 4)) (f (6 * N + 5)) = false := by rw [q1] at hq; simpa using hq
        repeat' (first | refine GW_seq ?_ | simp only [List.length_cons, List.length_nil, Nat.reduceAdd, Nat.reduceMul, wN] | ((first | refine GW_region' [111] (by kernel_rfl) ?_ | refine GW_draw' [111] follows (by kernel_rfl) (by kernel_rfl) ?_); intro Q hQ hP; simp [hC, hY, hin, hi', hz, hld, q1, q2, jb]; (repeat ((first | (refine heapK_mv (wi1_fun bx tp _ _ _ _ _ _ hbx htp (h.i hin 0 (by omega)) (h.i hin 1 (by omega)) (h.i hin 2 (by omega)) (h.i hin 3 (by omega)) (h.i hin 4 (by omega)) (h.i hin 5 (by omega))) G0F (B := 200) ⟨by simp, by simp [keys], by simp [jb, ids_lit, idsF, ids0]⟩ (fun k => if k = 100 then 108 else if k = 108 then 116 else k) (fun k hk => (if_neg (by omega)).trans (if_neg (by omega))) (by simp [ren, renA, renF, ren0]) (by simp) (by simp [jb, Blk.rn, renF, ren0]) (by simp [keys]) (by simp [keys]; rfl) ?_)); try simp [hC, hY, hin, hi', hz, hld, q1, q2, jb])); (first | refine hQ _ _ _ _ ?_ | refine hQ _ _ _ _ (by kernel_rfl) ?_ | refine hP _ _ (fun _ => ?_) | refine hP _ _ (by kernel_rfl) (fun _ => ?_)); clear hQ hP Q) | refine GW_block ?_ | refine GW_ret ?_ | refine GW_skip ?_ | refine GW_exit ?_ | refine GW_goto ?_ | refine GW_label ?_ | simp only [blockG_exit] | (refine GW_cond (by simp; rfl) ?_ ?_ <;> (intro hb; first | (exfalso; exact absurd hb (by decide)) | skip)))
        refine ⟨.inr rfl, by simp [Tryd.results129], keep_of G0F (by simp [jb]) (by (intro k hk; first | rfl | (simp (disch := omega) only [addB, List.mem_cons, List.not_mem_nil, or_false, upd_other, hpL_cons, hpL_nil, if_neg, updL] <;> done)))⟩
/-! ContainsFunc, Within -/
/-- All bodies are within. -/
def allB (bx tp : Int) (f : Nat → Int) (n : Nat) : Bool := (List.range n).all (inB bx tp f)
theorem allB_iff {bx tp : Int} {f : Nat → Int} {n : Nat} : allB bx tp f n = true ↔ ∀ i, i < n → inB bx tp f i = true := by simp [allB]
theorem allB_lead {bx tp : Int} {f : Nat → Int} {n N : Nat} (hN : N ≤ n) (hlt : ∀ i, i < N → inB bx tp f i = true) (hend : N = n ∨ inB bx tp f N = false) : allB bx tp f n = decide (N = n) := by
  by_cases h : N = n
  · subst h; rw [decide_eq_true rfl]; exact allB_iff.2 hlt
  · rw [decide_eq_false h]
    cases hb : allB bx tp f n with
    | false => rfl
    | true => have := allB_iff.1 hb N (by omega); rw [hend.resolve_left h] at this; cases this
theorem leadB (p : Nat → Bool) (m : Nat) : ∃ N, N ≤ m ∧ (∀ i, i < N → p i = true) ∧ (N = m ∨ p N = false) := by
  obtain ⟨N, h1, h2, h3⟩ := lead (fun i => p i = true) m
  exact ⟨N, h1, h2, h3.imp id (fun h => by simpa using h)⟩
theorem cf_fun (b : Blk) (off n cap : Nat) (f : Nat → Int) (h : SB b off n f) (bx tp : Int) (hbx : i64 bx) (htp : i64 tp) :
    Fun Tryd.prog G0 110 #[.slice (some ⟨100, off, none⟩) n cap, .func (.func 111) #[] #[.pointer (some ⟨108, 0, none⟩), .pointer (some ⟨116, 0, none⟩)]] (hpL G0 (ixL b bx tp)) (keys (ixL b bx tp)) (.ret (.bool !(allB bx tp f n)) []) := by
  refine fun_ofL (B := 200) G0F Tryd.func110 rfl Tryd.call110 (ixL_ok h.fx bx tp) ?_ (by simp) (by simp) (by simp) (by simp [Tryd.ntmps110]) (by omega) ?_
  · simp [idsV, idsA, idsF, ids0, keys, ixL]
  intro C hC hC0 hY
  obtain ⟨N, hN, hlt, hend⟩ := leadB (inB bx tp f) n
  rw [allB_lead hN hlt hend]
  have hr := fun ρ => Blk.fx_rn h.fx ρ
  unfold ixL
  by_cases hNn : N = n
  · have hNn' : (decide (N = n)) = true := decide_eq_true hNn
    rw [hNn']
    repeat' (first | refine GW_seq ?_ | simp only [List.length_cons, List.length_nil, Nat.reduceAdd, Nat.reduceMul, wN] | ((first | refine GW_region' [129] (by kernel_rfl) ?_ | refine GW_draw' [129] follows (by kernel_rfl) (by kernel_rfl) ?_); intro Q hQ hP; simp [hC, hY, hNn]; (repeat ((first | (refine heapK_mv (ix_fun b off n cap f h bx tp hbx htp N hN hlt hend) G0F (B := 200) (ixL_ok h.fx bx tp) (fun k => k) (fun k hk => rfl) (by simp [ren, renA, renF, ren0]) (by simp) (by simp [ixL, jb, Blk.rn_id]) (by simp [keys]) (by simp [keys, ixL]; rfl) ?_)); try simp [hC, hY, hNn])); (first | refine hQ _ _ _ _ ?_ | refine hQ _ _ _ _ (by kernel_rfl) ?_ | refine hP _ _ (fun _ => ?_) | refine hP _ _ (by kernel_rfl) (fun _ => ?_)); clear hQ hP Q) | refine GW_block ?_ | refine GW_ret ?_ | refine GW_skip ?_ | refine GW_exit ?_ | refine GW_goto ?_ | refine GW_label ?_ | simp only [blockG_exit] | (refine GW_cond (by simp; rfl) ?_ ?_ <;> (intro hb; first | (exfalso; exact absurd hb (by decide)) | skip)))
    refine ⟨.inr rfl, by simp [Tryd.results110], keep_of G0F (by simp [jb]) (by (intro k hk; first | rfl | (simp (disch := omega) only [addB, List.mem_cons, List.not_mem_nil, or_false, upd_other, hpL_cons, hpL_nil, if_neg, updL] <;> done)))⟩
  · have hNn' : (decide (N = n)) = false := decide_eq_false hNn
    have hz : (0 : Int) ≤ N := by omega
    rw [hNn']
    repeat' (first | refine GW_seq ?_ | simp only [List.length_cons, List.length_nil, Nat.reduceAdd, Nat.reduceMul, wN] | ((first | refine GW_region' [129] (by kernel_rfl) ?_ | refine GW_draw' [129] follows (by kernel_rfl) (by kernel_rfl) ?_); intro Q hQ hP; simp [hC, hY, hNn, hz]; (repeat ((first | (refine heapK_mv (ix_fun b off n cap f h bx tp hbx htp N hN hlt hend) G0F (B := 200) (ixL_ok h.fx bx tp) (fun k => k) (fun k hk => rfl) (by simp [ren, renA, renF, ren0]) (by simp) (by simp [ixL, jb, Blk.rn_id]) (by simp [keys]) (by simp [keys, ixL]; rfl) ?_)); try simp [hC, hY, hNn, hz])); (first | refine hQ _ _ _ _ ?_ | refine hQ _ _ _ _ (by kernel_rfl) ?_ | refine hP _ _ (fun _ => ?_) | refine hP _ _ (by kernel_rfl) (fun _ => ?_)); clear hQ hP Q) | refine GW_block ?_ | refine GW_ret ?_ | refine GW_skip ?_ | refine GW_exit ?_ | refine GW_goto ?_ | refine GW_label ?_ | simp only [blockG_exit] | (refine GW_cond (by simp; rfl) ?_ ?_ <;> (intro hb; first | (exfalso; exact absurd hb (by decide)) | skip)))
    refine ⟨.inr rfl, by simp [Tryd.results110], keep_of G0F (by simp [jb]) (by (intro k hk; first | rfl | (simp (disch := omega) only [addB, List.mem_cons, List.not_mem_nil, or_false, upd_other, hpL_cons, hpL_nil, if_neg, updL] <;> done)))⟩
theorem oneL_ok {b : Blk} (hb : b.fx) : LOk [(100, b)] 200 := ⟨by simp, by simp [keys], by
  simp only [List.mem_singleton, forall_eq]
  exact Blk.fx_ids hb _⟩
theorem swi_fun (b : Blk) (off n cap : Nat) (f : Nat → Int) (h : SB b off n f) (st bx tp : Int) (hbx : i64 bx) (htp : i64 tp) :
    Fun Tryd.prog G0 77 #[.agg #[.int .i64 st, .slice (some ⟨100, off, none⟩) n cap], .int .i64 bx, .int .i64 tp] (hpL G0 [(100, b)]) (keys [(100, b)]) (.ret (.bool (allB bx tp f n)) []) := by
  refine fun_ofL (B := 200) G0F Tryd.func77 rfl Tryd.call77 (oneL_ok h.fx) ?_ (by simp) (by simp) (by simp) (by simp [Tryd.ntmps77]) (by omega) ?_
  · simp [idsV, idsA, idsF, ids0, keys]
  intro C hC hC0 hY
  have hr := fun ρ => Blk.fx_rn h.fx ρ
  repeat' (first | refine GW_seq ?_ | simp only [List.length_cons, List.length_nil, Nat.reduceAdd, Nat.reduceMul, wN] | ((first | refine GW_region' [110] (by kernel_rfl) ?_ | refine GW_draw' [110] follows (by kernel_rfl) (by kernel_rfl) ?_); intro Q hQ hP; simp [hC, hY]; (repeat ((first | (refine heapK_mv (cf_fun b off n cap f h bx tp hbx htp) G0F (B := 200) (ixL_ok h.fx bx tp) (fun k => if k = 108 then 208 else if k = 116 then 216 else k) (fun k hk => (if_neg (by omega)).trans (if_neg (by omega))) (by simp [ren, renA, renF, ren0]) (by simp) (by simp [ixL, hr, jb_rn]; simp [jb]) (by simp [keys, ixL]) (by simp [keys, ixL]; rfl) ?_)); try simp [hC, hY])); (first | refine hQ _ _ _ _ ?_ | refine hQ _ _ _ _ (by kernel_rfl) ?_ | refine hP _ _ (fun _ => ?_) | refine hP _ _ (by kernel_rfl) (fun _ => ?_)); clear hQ hP Q) | refine GW_block ?_ | refine GW_ret ?_ | refine GW_skip ?_ | refine GW_exit ?_ | refine GW_goto ?_ | refine GW_label ?_ | simp only [blockG_exit] | (refine GW_cond (by simp; rfl) ?_ ?_ <;> (intro hb; first | (exfalso; exact absurd hb (by decide)) | skip)))
  refine ⟨.inr rfl, by simp [Tryd.results77], keep_of G0F (by simp [jb]) (by (intro k hk; first | rfl | (simp (disch := omega) only [addB, List.mem_cons, List.not_mem_nil, or_false, upd_other, hpL_cons, hpL_nil, if_neg, updL] <;> done)))⟩
/-! Right -/
def stB (st : Int) : Bool := decide (-1073741824 ≤ st ∧ st ≤ 1073741824)
theorem stB_max (st : Int) (hs : i64 st) : stB st = (decide ((if st < Int.bmod (-st) 18446744073709551616 then Int.bmod (-st) 18446744073709551616 else st) ≤ 1073741824) && decide (-1073741824 ≤ st)) := by
  have h1 := hs.1
  have h2 := hs.2
  unfold stB
  rw [Bool.eq_iff_iff]
  simp only [Bool.and_eq_true, decide_eq_true_eq]
  rw [Int.bmod_def]
  split <;> split <;> omega
/-- The state may be. -/
def rightB (st : Int) (f : Nat → Int) (n : Nat) : Bool := stB st && decide (1 ≤ n ∧ n ≤ 4) && allB 1048576 65536 f n
theorem i64_box : i64 1048576 := by unfold i64; omega
theorem i64_top : i64 65536 := by unfold i64; omega
theorem rig_fun (b : Blk) (off n cap : Nat) (f : Nat → Int) (h : SB b off n f) (st : Int) (hs : i64 st) :
    Fun Tryd.prog G0 44 #[.agg #[.int .i64 st, .slice (some ⟨100, off, none⟩) n cap]] (hpL G0 [(100, b)]) (keys [(100, b)]) (.ret (.bool (rightB st f n)) []) := by
  refine fun_ofL (B := 200) G0F Tryd.func44 rfl Tryd.call44 (oneL_ok h.fx) ?_ (by simp) (by simp) (by simp) (by simp [Tryd.ntmps44]) (by omega) ?_
  · simp [idsV, idsA, idsF, ids0, keys]
  intro C hC hC0 hY
  have hr := fun ρ => Blk.fx_rn h.fx ρ
  obtain ⟨m, hm⟩ : ∃ m, (if st < Int.bmod (-st) 18446744073709551616 then Int.bmod (-st) 18446744073709551616 else st) = m := ⟨_, rfl⟩
  have key := stB_max st hs
  rw [hm] at key
  unfold rightB
  rw [key]
  by_cases c0 : m ≤ 1073741824
  · by_cases c1 : -1073741824 ≤ st
    · by_cases c2 : 0 < n
      · by_cases c3 : n ≤ 4
        · have c4 : (n : Int) ≤ 4 := by omega
          have e : decide (1 ≤ n ∧ n ≤ 4) = true := decide_eq_true (by omega)
          rw [decide_eq_true c0, decide_eq_true c1, e]
          repeat' (first | refine GW_seq ?_ | simp only [List.length_cons, List.length_nil, Nat.reduceAdd, Nat.reduceMul, wN] | ((first | refine GW_region' [77] (by kernel_rfl) ?_ | refine GW_draw' [77] follows (by kernel_rfl) (by kernel_rfl) ?_); intro Q hQ hP; simp [hC, hY, hm, c0, c1, c2, c3, c4]; (repeat ((first | (refine heapK_mv (swi_fun b off n cap f h st 1048576 65536 i64_box i64_top) G0F (B := 200) (oneL_ok h.fx) (fun k => k) (fun k hk => rfl) (by simp [ren, renA, renF, ren0]) (by simp) (by simp [hr]) (by simp [keys]) (by simp [keys]; rfl) ?_)); try simp [hC, hY, hm, c0, c1, c2, c3, c4])); (first | refine hQ _ _ _ _ ?_ | refine hQ _ _ _ _ (by kernel_rfl) ?_ | refine hP _ _ (fun _ => ?_) | refine hP _ _ (by kernel_rfl) (fun _ => ?_)); clear hQ hP Q) | refine GW_block ?_ | refine GW_ret ?_ | refine GW_skip ?_ | refine GW_exit ?_ | refine GW_goto ?_ | refine GW_label ?_ | simp only [blockG_exit] | (refine GW_cond (by simp; rfl) ?_ ?_ <;> (intro hb; first | (exfalso; exact absurd hb (by decide)) | skip)))
          refine ⟨.inr rfl, by simp [Tryd.results44], keep_of G0F (by simp) (by (intro k hk; first | rfl | (simp (disch := omega) only [addB, List.mem_cons, List.not_mem_nil, or_false, upd_other, hpL_cons, hpL_nil, if_neg, updL] <;> done)))⟩
        · have c4 : ¬ (n : Int) ≤ 4 := by omega
          have e : decide (1 ≤ n ∧ n ≤ 4) = false := decide_eq_false (by omega)
          rw [decide_eq_true c0, decide_eq_true c1, e]
          repeat' (first | refine GW_seq ?_ | simp only [List.length_cons, List.length_nil, Nat.reduceAdd, Nat.reduceMul, wN] | ((first | refine GW_region' [] (by kernel_rfl) ?_ | refine GW_draw' [] follows (by kernel_rfl) (by kernel_rfl) ?_); intro Q hQ hP; simp [hC, hY, hm, c0, c1, c2, c3, c4]; (first | refine hQ _ _ _ _ ?_ | refine hQ _ _ _ _ (by kernel_rfl) ?_ | refine hP _ _ (fun _ => ?_) | refine hP _ _ (by kernel_rfl) (fun _ => ?_)); clear hQ hP Q) | refine GW_block ?_ | refine GW_ret ?_ | refine GW_skip ?_ | refine GW_exit ?_ | refine GW_goto ?_ | refine GW_label ?_ | simp only [blockG_exit] | (refine GW_cond (by simp; rfl) ?_ ?_ <;> (intro hb; first | (exfalso; exact absurd hb (by decide)) | skip)))
          refine ⟨.inr rfl, by simp [Tryd.results44], keep_of G0F (by simp) (by (intro k hk; first | rfl | (simp (disch := omega) only [addB, List.mem_cons, List.not_mem_nil, or_false, upd_other, hpL_cons, hpL_nil, if_neg, updL] <;> done)))⟩
      · have e : decide (1 ≤ n ∧ n ≤ 4) = false := decide_eq_false (by omega)
        rw [decide_eq_true c0, decide_eq_true c1, e]
        repeat' (first | refine GW_seq ?_ | simp only [List.length_cons, List.length_nil, Nat.reduceAdd, Nat.reduceMul, wN] | ((first | refine GW_region' [] (by kernel_rfl) ?_ | refine GW_draw' [] follows (by kernel_rfl) (by kernel_rfl) ?_); intro Q hQ hP; simp [hC, hY, hm, c0, c1, c2]; (first | refine hQ _ _ _ _ ?_ | refine hQ _ _ _ _ (by kernel_rfl) ?_ | refine hP _ _ (fun _ => ?_) | refine hP _ _ (by kernel_rfl) (fun _ => ?_)); clear hQ hP Q) | refine GW_block ?_ | refine GW_ret ?_ | refine GW_skip ?_ | refine GW_exit ?_ | refine GW_goto ?_ | refine GW_label ?_ | simp only [blockG_exit] | (refine GW_cond (by simp; rfl) ?_ ?_ <;> (intro hb; first | (exfalso; exact absurd hb (by decide)) | skip)))
        refine ⟨.inr rfl, by simp [Tryd.results44], keep_of G0F (by simp) (by (intro k hk; first | rfl | (simp (disch := omega) only [addB, List.mem_cons, List.not_mem_nil, or_false, upd_other, hpL_cons, hpL_nil, if_neg, updL] <;> done)))⟩
    · rw [decide_eq_true c0, decide_eq_false c1]
      repeat' (first | refine GW_seq ?_ | simp only [List.length_cons, List.length_nil, Nat.reduceAdd, Nat.reduceMul, wN] | ((first | refine GW_region' [] (by kernel_rfl) ?_ | refine GW_draw' [] follows (by kernel_rfl) (by kernel_rfl) ?_); intro Q hQ hP; simp [hC, hY, hm, c0, c1]; (first | refine hQ _ _ _ _ ?_ | refine hQ _ _ _ _ (by kernel_rfl) ?_ | refine hP _ _ (fun _ => ?_) | refine hP _ _ (by kernel_rfl) (fun _ => ?_)); clear hQ hP Q) | refine GW_block ?_ | refine GW_ret ?_ | refine GW_skip ?_ | refine GW_exit ?_ | refine GW_goto ?_ | refine GW_label ?_ | simp only [blockG_exit] | (refine GW_cond (by simp; rfl) ?_ ?_ <;> (intro hb; first | (exfalso; exact absurd hb (by decide)) | skip)))
      refine ⟨.inr rfl, by simp [Tryd.results44], keep_of G0F (by simp) (by (intro k hk; first | rfl | (simp (disch := omega) only [addB, List.mem_cons, List.not_mem_nil, or_false, upd_other, hpL_cons, hpL_nil, if_neg, updL] <;> done)))⟩
  · rw [decide_eq_false c0]
    repeat' (first | refine GW_seq ?_ | simp only [List.length_cons, List.length_nil, Nat.reduceAdd, Nat.reduceMul, wN] | ((first | refine GW_region' [] (by kernel_rfl) ?_ | refine GW_draw' [] follows (by kernel_rfl) (by kernel_rfl) ?_); intro Q hQ hP; simp [hC, hY, hm, c0]; (first | refine hQ _ _ _ _ ?_ | refine hQ _ _ _ _ (by kernel_rfl) ?_ | refine hP _ _ (fun _ => ?_) | refine hP _ _ (by kernel_rfl) (fun _ => ?_)); clear hQ hP Q) | refine GW_block ?_ | refine GW_ret ?_ | refine GW_skip ?_ | refine GW_exit ?_ | refine GW_goto ?_ | refine GW_label ?_ | simp only [blockG_exit] | (refine GW_cond (by simp; rfl) ?_ ?_ <;> (intro hb; first | (exfalso; exact absurd hb (by decide)) | skip)))
    refine ⟨.inr rfl, by simp [Tryd.results44], keep_of G0F (by simp) (by (intro k hk; first | rfl | (simp (disch := omega) only [addB, List.mem_cons, List.not_mem_nil, or_false, upd_other, hpL_cons, hpL_nil, if_neg, updL] <;> done)))⟩
end Go.Gy
namespace Go.Gy
set_option linter.unusedSimpArgs false
set_option linter.unusedVariables false
open Go Go.RowKit Go.Proofs
theorem SB.int {b : Blk} {off n : Nat} {f : Nat → Int} (h : SB b off n f) {i : Nat} (hi : i < n) {q : Nat} (hq : q < 6) : loadK Tryd.prog 3 b (off + i * 6 + q) = some (.int .i64 (f (6 * i + q))) := by
  have := loadK_rd1 (P := Tryd.prog) (T := 3) (j := 6 * i + q) (tyAgg_of Tryd.isAgg3) h.rd (by omega)
  rw [show off + i * 6 + q = off + (6 * i + q) by omega, this]
def w10St (b : Blk) (off n cap : Nat) (st : Int) (i : Nat) : GS :=
  ⟨tsL [(1, .int .i64 1048576), (2, .int .i64 65536), (3, .pointer (some ⟨200, 0, none⟩)), (7, .int .i64 i)],
   hpL G0 [(200, ⟨#[.int .i64 st, .slice (some ⟨100, off, none⟩) n cap], .ty 24⟩), (100, b)], 400, 0⟩
theorem inB_cases {f : Nat → Int} {i : Nat} : inB 1048576 65536 f i = true ↔ ((-1048576 ≤ f (6 * i) ∧ f (6 * i) ≤ 1048576) ∧ (-1048576 ≤ f (6 * i + 1) ∧ f (6 * i + 1) ≤ 1048576) ∧ (-1048576 ≤ f (6 * i + 2) ∧ f (6 * i + 2) ≤ 1048576)) ∧ (-65536 ≤ f (6 * i + 3) ∧ f (6 * i + 3) ≤ 65536) ∧ (-65536 ≤ f (6 * i + 4) ∧ f (6 * i + 4) ≤ 65536) ∧ (-65536 ≤ f (6 * i + 5) ∧ f (6 * i + 5) ≤ 65536) := by
  unfold inB inV inW
  simp only [Bool.and_eq_true, decide_eq_true_eq]
  omega
set_option maxHeartbeats 4000000 in
set_option maxRecDepth 20000 in
theorem w10_fun (b : Blk) (off n cap : Nat) (f : Nat → Int) (h : SB b off n f) (st : Int) :
    Fun Tryd.prog G0 51 #[.agg #[.int .i64 st, .slice (some ⟨100, off, none⟩) n cap], .int .i64 1048576, .int .i64 65536] (hpL G0 [(100, b)]) (keys [(100, b)]) (.ret (.bool (allB 1048576 65536 f n)) []) := by
  refine fun_ofL (B := 200) G0F Tryd.func51 rfl Tryd.call51 (oneL_ok h.fx) ?_ (by simp) (by simp) (by simp) (by simp [Tryd.ntmps51]) (by omega) ?_
  · simp [idsV, idsA, idsF, ids0, keys]
  intro C hC hC0 hY
  obtain ⟨N, hN, hlt, hend⟩ := leadB (inB 1048576 65536 f) n
  have hnn := h.nn
  rw [allB_lead hN hlt hend]
  repeat' (first | refine GW_seq ?_ | simp only [List.length_cons, List.length_nil, Nat.reduceAdd, Nat.reduceMul, wN] | ((first | refine GW_region' [] (by kernel_rfl) ?_ | refine GW_draw' [] follows (by kernel_rfl) (by kernel_rfl) ?_); intro Q hQ hP; simp [hC, hY]; (first | refine hQ _ _ _ _ ?_ | refine hQ _ _ _ _ (by kernel_rfl) ?_ | refine hP _ _ (fun _ => ?_) | refine hP _ _ (by kernel_rfl) (fun _ => ?_)); clear hQ hP Q) | refine GW_block ?_ | refine GW_ret ?_ | refine GW_skip ?_ | refine GW_exit ?_ | refine GW_goto ?_ | refine GW_label ?_ | simp only [blockG_exit] | (refine GW_cond (by simp; rfl) ?_ ?_ <;> (intro hb; first | (exfalso; exact absurd hb (by decide)) | skip)))
  refine GW_for N (w10St b off n cap st) ?_ ?_ ?_
  · refine weakL _ 400 hC G0F (m0 := [(100, b)]) hC0 (by omega) ?_ ?_ ?_
    · simp [idsV, idsA, idsF, ids0, dom]
    · have hi := fun D => Blk.fx_ids h.fx D
      simp [ids_lit, idsF, ids0, hi, dom]
    · simp
  · intro i hi
    have hin : i < n := by omega
    have hi' : (i : Int) < n := by omega
    have hz : (0 : Int) ≤ i := by omega
    have hs : Int.bmod ((i : Int) + 1) 18446744073709551616 = ((i + 1 : Nat) : Int) := by rw [bm (by omega) (by omega)]; rfl
    have l0 := h.int hin (q := 0) (by omega)
    have l1 := h.int hin (q := 1) (by omega)
    have l2 := h.int hin (q := 2) (by omega)
    have l3 := h.int hin (q := 3) (by omega)
    have l4 := h.int hin (q := 4) (by omega)
    have l5 := h.int hin (q := 5) (by omega)
    simp only [Nat.add_zero] at l0
    obtain ⟨⟨⟨a0, b0⟩, ⟨a1, b1⟩, ⟨a2, b2⟩⟩, ⟨a3, b3⟩, ⟨a4, b4⟩, ⟨a5, b5⟩⟩ := inB_cases.1 (hlt i hi)
    replace a0 := Int.not_lt.2 a0
    replace a1 := Int.not_lt.2 a1
    replace a2 := Int.not_lt.2 a2
    replace a3 := Int.not_lt.2 a3
    replace a4 := Int.not_lt.2 a4
    replace a5 := Int.not_lt.2 a5
    replace b0 := Int.not_lt.2 b0
    replace b1 := Int.not_lt.2 b1
    replace b2 := Int.not_lt.2 b2
    replace b3 := Int.not_lt.2 b3
    replace b4 := Int.not_lt.2 b4
    replace b5 := Int.not_lt.2 b5
    unfold w10St
    repeat' (first | refine GW_seq ?_ | refine GWL_start ?_ | refine GWL_step ?_ | simp only [List.length_cons, List.length_nil, Nat.reduceAdd, Nat.reduceMul, wN] | ((first | refine GW_region' [] (by kernel_rfl) ?_ | refine GW_draw' [] follows (by kernel_rfl) (by kernel_rfl) ?_); intro Q hQ hP; simp [hC, hY, hi, hin, hi', hz, hs, l0, l1, l2, l3, l4, l5, a0, a1, a2, a3, a4, a5, b0, b1, b2, b3, b4, b5]; (first | refine hQ _ _ _ _ ?_ | refine hQ _ _ _ _ (by kernel_rfl) ?_ | refine hP _ _ (fun _ => ?_) | refine hP _ _ (by kernel_rfl) (fun _ => ?_)); clear hQ hP Q) | refine GW_block ?_ | refine GW_ret ?_ | refine GW_skip ?_ | refine GW_exit ?_ | refine GW_goto ?_ | refine GW_label ?_ | simp only [blockG_exit] | (refine GW_cond (by simp; rfl) ?_ ?_ <;> (intro hb; first | (exfalso; exact absurd hb (by decide)) | skip)))
    refine weakL _ 400 hC G0F (m0 := [(100, b)]) hC0 (by omega) ?_ ?_ ?_
    · simp [idsV, idsA, idsF, ids0, dom, hs]
    · have hi := fun D => Blk.fx_ids h.fx D
      simp [ids_lit, idsF, ids0, hi, dom]
    · simp
  · by_cases hNn : N = n
    · rw [decide_eq_true hNn]
      subst hNn
      unfold w10St
      repeat' (first | refine GW_seq ?_ | simp only [List.length_cons, List.length_nil, Nat.reduceAdd, Nat.reduceMul, wN] | ((first | refine GW_region' [] (by kernel_rfl) ?_ | refine GW_draw' [] follows (by kernel_rfl) (by kernel_rfl) ?_); intro Q hQ hP; simp [hC, hY]; (first | refine hQ _ _ _ _ ?_ | refine hQ _ _ _ _ (by kernel_rfl) ?_ | refine hP _ _ (fun _ => ?_) | refine hP _ _ (by kernel_rfl) (fun _ => ?_)); clear hQ hP Q) | refine GW_block ?_ | refine GW_ret ?_ | refine GW_skip ?_ | refine GW_exit ?_ | refine GW_goto ?_ | refine GW_label ?_ | simp only [blockG_exit] | (refine GW_cond (by simp; rfl) ?_ ?_ <;> (intro hb; first | (exfalso; exact absurd hb (by decide)) | skip)))
      refine ⟨.inr rfl, by simp [Tryd.results51], keep_of G0F (by simp) (by (intro k hk; first | rfl | (simp (disch := omega) only [addB, List.mem_cons, List.not_mem_nil, or_false, upd_other, hpL_cons, hpL_nil, if_neg, updL] <;> done)))⟩
    · rw [decide_eq_false hNn]
      have hin : N < n := by omega
      have hi' : (N : Int) < n := by omega
      have hz : (0 : Int) ≤ N := by omega
      have l0 := h.int hin (q := 0) (by omega)
      have l1 := h.int hin (q := 1) (by omega)
      have l2 := h.int hin (q := 2) (by omega)
      have l3 := h.int hin (q := 3) (by omega)
      have l4 := h.int hin (q := 4) (by omega)
      have l5 := h.int hin (q := 5) (by omega)
      simp only [Nat.add_zero] at l0
      have hbad : ¬ inB 1048576 65536 f N = true := by rw [hend.resolve_left hNn]; simp
      rw [inB_cases] at hbad
      unfold w10St
      by_cases a0 : f (6 * N) < -1048576
      ·
        repeat' (first | refine GW_seq ?_ | refine GWL_start ?_ | refine GWL_step ?_ | simp only [List.length_cons, List.length_nil, Nat.reduceAdd, Nat.reduceMul, wN] | ((first | refine GW_region' [] (by kernel_rfl) ?_ | refine GW_draw' [] follows (by kernel_rfl) (by kernel_rfl) ?_); intro Q hQ hP; simp [hC, hY, hin, hi', hz, l0, l1, l2, l3, l4, l5, a0]; (first | refine hQ _ _ _ _ ?_ | refine hQ _ _ _ _ (by kernel_rfl) ?_ | refine hP _ _ (fun _ => ?_) | refine hP _ _ (by kernel_rfl) (fun _ => ?_)); clear hQ hP Q) | refine GW_block ?_ | refine GW_ret ?_ | refine GW_skip ?_ | refine GW_exit ?_ | refine GW_goto ?_ | refine GW_label ?_ | simp only [blockG_exit] | (refine GW_cond (by simp; rfl) ?_ ?_ <;> (intro hb; first | (exfalso; exact absurd hb (by decide)) | skip)))
        refine ⟨.inr rfl, by simp [Tryd.results51], keep_of G0F (by simp) (by (intro k hk; first | rfl | (simp (disch := omega) only [addB, List.mem_cons, List.not_mem_nil, or_false, upd_other, hpL_cons, hpL_nil, if_neg, updL] <;> done)))⟩
      by_cases b0 : 1048576 < f (6 * N)
      ·
        repeat' (first | refine GW_seq ?_ | refine GWL_start ?_ | refine GWL_step ?_ | simp only [List.length_cons, List.length_nil, Nat.reduceAdd, Nat.reduceMul, wN] | ((first | refine GW_region' [] (by kernel_rfl) ?_ | refine GW_draw' [] follows (by kernel_rfl) (by kernel_rfl) ?_); intro Q hQ hP; simp [hC, hY, hin, hi', hz, l0, l1, l2, l3, l4, l5, a0, b0]; (first | refine hQ _ _ _ _ ?_ | refine hQ _ _ _ _ (by kernel_rfl) ?_ | refine hP _ _ (fun _ => ?_) | refine hP _ _ (by kernel_rfl) (fun _ => ?_)); clear hQ hP Q) | refine GW_block ?_ | refine GW_ret ?_ | refine GW_skip ?_ | refine GW_exit ?_ | refine GW_goto ?_ | refine GW_label ?_ | simp only [blockG_exit] | (refine GW_cond (by simp; rfl) ?_ ?_ <;> (intro hb; first | (exfalso; exact absurd hb (by decide)) | skip)))
        refine ⟨.inr rfl, by simp [Tryd.results51], keep_of G0F (by simp) (by (intro k hk; first | rfl | (simp (disch := omega) only [addB, List.mem_cons, List.not_mem_nil, or_false, upd_other, hpL_cons, hpL_nil, if_neg, updL] <;> done)))⟩
      by_cases a3 : f (6 * N + 3) < -65536
      ·
        repeat' (first | refine GW_seq ?_ | refine GWL_start ?_ | refine GWL_step ?_ | simp only [List.length_cons, List.length_nil, Nat.reduceAdd, Nat.reduceMul, wN] | ((first | refine GW_region' [] (by kernel_rfl) ?_ | refine GW_draw' [] follows (by kernel_rfl) (by kernel_rfl) ?_); intro Q hQ hP; simp [hC, hY, hin, hi', hz, l0, l1, l2, l3, l4, l5, a0, b0, a3]; (first | refine hQ _ _ _ _ ?_ | refine hQ _ _ _ _ (by kernel_rfl) ?_ | refine hP _ _ (fun _ => ?_) | refine hP _ _ (by kernel_rfl) (fun _ => ?_)); clear hQ hP Q) | refine GW_block ?_ | refine GW_ret ?_ | refine GW_skip ?_ | refine GW_exit ?_ | refine GW_goto ?_ | refine GW_label ?_ | simp only [blockG_exit] | (refine GW_cond (by simp; rfl) ?_ ?_ <;> (intro hb; first | (exfalso; exact absurd hb (by decide)) | skip)))
        refine ⟨.inr rfl, by simp [Tryd.results51], keep_of G0F (by simp) (by (intro k hk; first | rfl | (simp (disch := omega) only [addB, List.mem_cons, List.not_mem_nil, or_false, upd_other, hpL_cons, hpL_nil, if_neg, updL] <;> done)))⟩
      by_cases b3 : 65536 < f (6 * N + 3)
      ·
        repeat' (first | refine GW_seq ?_ | refine GWL_start ?_ | refine GWL_step ?_ | simp only [List.length_cons, List.length_nil, Nat.reduceAdd, Nat.reduceMul, wN] | ((first | refine GW_region' [] (by kernel_rfl) ?_ | refine GW_draw' [] follows (by kernel_rfl) (by kernel_rfl) ?_); intro Q hQ hP; simp [hC, hY, hin, hi', hz, l0, l1, l2, l3, l4, l5, a0, b0, a3, b3]; (first | refine hQ _ _ _ _ ?_ | refine hQ _ _ _ _ (by kernel_rfl) ?_ | refine hP _ _ (fun _ => ?_) | refine hP _ _ (by kernel_rfl) (fun _ => ?_)); clear hQ hP Q) | refine GW_block ?_ | refine GW_ret ?_ | refine GW_skip ?_ | refine GW_exit ?_ | refine GW_goto ?_ | refine GW_label ?_ | simp only [blockG_exit] | (refine GW_cond (by simp; rfl) ?_ ?_ <;> (intro hb; first | (exfalso; exact absurd hb (by decide)) | skip)))
        refine ⟨.inr rfl, by simp [Tryd.results51], keep_of G0F (by simp) (by (intro k hk; first | rfl | (simp (disch := omega) only [addB, List.mem_cons, List.not_mem_nil, or_false, upd_other, hpL_cons, hpL_nil, if_neg, updL] <;> done)))⟩
      by_cases a1 : f (6 * N + 1) < -1048576
      ·
        repeat' (first | refine GW_seq ?_ | refine GWL_start ?_ | refine GWL_step ?_ | simp only [List.length_cons, List.length_nil, Nat.reduceAdd, Nat.reduceMul, wN] | ((first | refine GW_region' [] (by kernel_rfl) ?_ | refine GW_draw' [] follows (by kernel_rfl) (by kernel_rfl) ?_); intro Q hQ hP; simp [hC, hY, hin, hi', hz, l0, l1, l2, l3, l4, l5, a0, b0, a3, b3, a1]; (first | refine hQ _ _ _ _ ?_ | refine hQ _ _ _ _ (by kernel_rfl) ?_ | refine hP _ _ (fun _ => ?_) | refine hP _ _ (by kernel_rfl) (fun _ => ?_)); clear hQ hP Q) | refine GW_block ?_ | refine GW_ret ?_ | refine GW_skip ?_ | refine GW_exit ?_ | refine GW_goto ?_ | refine GW_label ?_ | simp only [blockG_exit] | (refine GW_cond (by simp; rfl) ?_ ?_ <;> (intro hb; first | (exfalso; exact absurd hb (by decide)) | skip)))
        refine ⟨.inr rfl, by simp [Tryd.results51], keep_of G0F (by simp) (by (intro k hk; first | rfl | (simp (disch := omega) only [addB, List.mem_cons, List.not_mem_nil, or_false, upd_other, hpL_cons, hpL_nil, if_neg, updL] <;> done)))⟩
      by_cases b1 : 1048576 < f (6 * N + 1)
      ·
        repeat' (first | refine GW_seq ?_ | refine GWL_start ?_ | refine GWL_step ?_ | simp only [List.length_cons, List.length_nil, Nat.reduceAdd, Nat.reduceMul, wN] | ((first | refine GW_region' [] (by kernel_rfl) ?_ | refine GW_draw' [] follows (by kernel_rfl) (by kernel_rfl) ?_); intro Q hQ hP; simp [hC, hY, hin, hi', hz, l0, l1, l2, l3, l4, l5, a0, b0, a3, b3, a1, b1]; (first | refine hQ _ _ _ _ ?_ | refine hQ _ _ _ _ (by kernel_rfl) ?_ | refine hP _ _ (fun _ => ?_) | refine hP _ _ (by kernel_rfl) (fun _ => ?_)); clear hQ hP Q) | refine GW_block ?_ | refine GW_ret ?_ | refine GW_skip ?_ | refine GW_exit ?_ | refine GW_goto ?_ | refine GW_label ?_ | simp only [blockG_exit] | (refine GW_cond (by simp; rfl) ?_ ?_ <;> (intro hb; first | (exfalso; exact absurd hb (by decide)) | skip)))
        refine ⟨.inr rfl, by simp [Tryd.results51], keep_of G0F (by simp) (by (intro k hk; first | rfl | (simp (disch := omega) only [addB, List.mem_cons, List.not_mem_nil, or_false, upd_other, hpL_cons, hpL_nil, if_neg, updL] <;> done)))⟩
      by_cases a4 : f (6 * N + 4) < -65536
      ·
        repeat' (first | refine GW_seq ?_ | refine GWL_start ?_ | refine GWL_step ?_ | simp only [List.length_cons, List.length_nil, Nat.reduceAdd, Nat.reduceMul, wN] | ((first | refine GW_region' [] (by kernel_rfl) ?_ | refine GW_draw' [] follows (by kernel_rfl) (by kernel_rfl) ?_); intro Q hQ hP; simp [hC, hY, hin, hi', hz, l0, l1, l2, l3, l4, l5, a0, b0, a3, b3, a1, b1, a4]; (first | refine hQ _ _ _ _ ?_ | refine hQ _ _ _ _ (by kernel_rfl) ?_ | refine hP _ _ (fun _ => ?_) | refine hP _ _ (by kernel_rfl) (fun _ => ?_)); clear hQ hP Q) | refine GW_block ?_ | refine GW_ret ?_ | refine GW_skip ?_ | refine GW_exit ?_ | refine GW_goto ?_ | refine GW_label ?_ | simp only [blockG_exit] | (refine GW_cond (by simp; rfl) ?_ ?_ <;> (intro hb; first | (exfalso; exact absurd hb (by decide)) | skip)))
        refine ⟨.inr rfl, by simp [Tryd.results51], keep_of G0F (by simp) (by (intro k hk; first | rfl | (simp (disch := omega) only [addB, List.mem_cons, List.not_mem_nil, or_false, upd_other, hpL_cons, hpL_nil, if_neg, updL] <;> done)))⟩
      by_cases b4 : 65536 < f (6 * N + 4)
      ·
        repeat' (first | refine GW_seq ?_ | refine GWL_start ?_ | refine GWL_step ?_ | simp only [List.length_cons, List.length_nil, Nat.reduceAdd, Nat.reduceMul, wN] | ((first | refine GW_region' [] (by kernel_rfl) ?_ | refine GW_draw' [] follows (by kernel_rfl) (by kernel_rfl) ?_); intro Q hQ hP; simp [hC, hY, hin, hi', hz, l0, l1, l2, l3, l4, l5, a0, b0, a3, b3, a1, b1, a4, b4]; (first | refine hQ _ _ _ _ ?_ | refine hQ _ _ _ _ (by kernel_rfl) ?_ | refine hP _ _ (fun _ => ?_) | refine hP _ _ (by kernel_rfl) (fun _ => ?_)); clear hQ hP Q) | refine GW_block ?_ | refine GW_ret ?_ | refine GW_skip ?_ | refine GW_exit ?_ | refine GW_goto ?_ | refine GW_label ?_ | simp only [blockG_exit] | (refine GW_cond (by simp; rfl) ?_ ?_ <;> (intro hb; first | (exfalso; exact absurd hb (by decide)) | skip)))
        refine ⟨.inr rfl, by simp [Tryd.results51], keep_of G0F (by simp) (by (intro k hk; first | rfl | (simp (disch := omega) only [addB, List.mem_cons, List.not_mem_nil, or_false, upd_other, hpL_cons, hpL_nil, if_neg, updL] <;> done)))⟩
      by_cases a2 : f (6 * N + 2) < -1048576
      ·
        repeat' (first | refine GW_seq ?_ | refine GWL_start ?_ | refine GWL_step ?_ | simp only [List.length_cons, List.length_nil, Nat.reduceAdd, Nat.reduceMul, wN] | ((first | refine GW_region' [] (by kernel_rfl) ?_ | refine GW_draw' [] follows (by kernel_rfl) (by kernel_rfl) ?_); intro Q hQ hP; simp [hC, hY, hin, hi', hz, l0, l1, l2, l3, l4, l5, a0, b0, a3, b3, a1, b1, a4, b4, a2]; (first | refine hQ _ _ _ _ ?_ | refine hQ _ _ _ _ (by kernel_rfl) ?_ | refine hP _ _ (fun _ => ?_) | refine hP _ _ (by kernel_rfl) (fun _ => ?_)); clear hQ hP Q) | refine GW_block ?_ | refine GW_ret ?_ | refine GW_skip ?_ | refine GW_exit ?_ | refine GW_goto ?_ | refine GW_label ?_ | simp only [blockG_exit] | (refine GW_cond (by simp; rfl) ?_ ?_ <;> (intro hb; first | (exfalso; exact absurd hb (by decide)) | skip)))
        refine ⟨.inr rfl, by simp [Tryd.results51], keep_of G0F (by simp) (by (intro k hk; first | rfl | (simp (disch := omega) only [addB, List.mem_cons, List.not_mem_nil, or_false, upd_other, hpL_cons, hpL_nil, if_neg, updL] <;> done)))⟩
      by_cases b2 : 1048576 < f (6 * N + 2)
      ·
        repeat' (first | refine GW_seq ?_ | refine GWL_start ?_ | refine GWL_step ?_ | simp only [List.length_cons, List.length_nil, Nat.reduceAdd, Nat.reduceMul, wN] | ((first | refine GW_region' [] (by kernel_rfl) ?_ | refine GW_draw' [] follows (by kernel_rfl) (by kernel_rfl) ?_); intro Q hQ hP; simp [hC, hY, hin, hi', hz, l0, l1, l2, l3, l4, l5, a0, b0, a3, b3, a1, b1, a4, b4, a2, b2]; (first | refine hQ _ _ _ _ ?_ | refine hQ _ _ _ _ (by kernel_rfl) ?_ | refine hP _ _ (fun _ => ?_) | refine hP _ _ (by kernel_rfl) (fun _ => ?_)); clear hQ hP Q) | refine GW_block ?_ | refine GW_ret ?_ | refine GW_skip ?_ | refine GW_exit ?_ | refine GW_goto ?_ | refine GW_label ?_ | simp only [blockG_exit] | (refine GW_cond (by simp; rfl) ?_ ?_ <;> (intro hb; first | (exfalso; exact absurd hb (by decide)) | skip)))
        refine ⟨.inr rfl, by simp [Tryd.results51], keep_of G0F (by simp) (by (intro k hk; first | rfl | (simp (disch := omega) only [addB, List.mem_cons, List.not_mem_nil, or_false, upd_other, hpL_cons, hpL_nil, if_neg, updL] <;> done)))⟩
      by_cases a5 : f (6 * N + 5) < -65536
      ·
        repeat' (first | refine GW_seq ?_ | refine GWL_start ?_ | refine GWL_step ?_ | simp only [List.length_cons, List.length_nil, Nat.reduceAdd, Nat.reduceMul, wN] | ((first | refine GW_region' [] (by kernel_rfl) ?_ | refine GW_draw' [] follows (by kernel_rfl) (by kernel_rfl) ?_); intro Q hQ hP; simp [hC, hY, hin, hi', hz, l0, l1, l2, l3, l4, l5, a0, b0, a3, b3, a1, b1, a4, b4, a2, b2, a5]; (first | refine hQ _ _ _ _ ?_ | refine hQ _ _ _ _ (by kernel_rfl) ?_ | refine hP _ _ (fun _ => ?_) | refine hP _ _ (by kernel_rfl) (fun _ => ?_)); clear hQ hP Q) | refine GW_block ?_ | refine GW_ret ?_ | refine GW_skip ?_ | refine GW_exit ?_ | refine GW_goto ?_ | refine GW_label ?_ | simp only [blockG_exit] | (refine GW_cond (by simp; rfl) ?_ ?_ <;> (intro hb; first | (exfalso; exact absurd hb (by decide)) | skip)))
        refine ⟨.inr rfl, by simp [Tryd.results51], keep_of G0F (by simp) (by (intro k hk; first | rfl | (simp (disch := omega) only [addB, List.mem_cons, List.not_mem_nil, or_false, upd_other, hpL_cons, hpL_nil, if_neg, updL] <;> done)))⟩
      by_cases b5 : 65536 < f (6 * N + 5)
      ·
        repeat' (first | refine GW_seq ?_ | refine GWL_start ?_ | refine GWL_step ?_ | simp only [List.length_cons, List.length_nil, Nat.reduceAdd, Nat.reduceMul, wN] | ((first | refine GW_region' [] (by kernel_rfl) ?_ | refine GW_draw' [] follows (by kernel_rfl) (by kernel_rfl) ?_); intro Q hQ hP; simp [hC, hY, hin, hi', hz, l0, l1, l2, l3, l4, l5, a0, b0, a3, b3, a1, b1, a4, b4, a2, b2, a5, b5]; (first | refine hQ _ _ _ _ ?_ | refine hQ _ _ _ _ (by kernel_rfl) ?_ | refine hP _ _ (fun _ => ?_) | refine hP _ _ (by kernel_rfl) (fun _ => ?_)); clear hQ hP Q) | refine GW_block ?_ | refine GW_ret ?_ | refine GW_skip ?_ | refine GW_exit ?_ | refine GW_goto ?_ | refine GW_label ?_ | simp only [blockG_exit] | (refine GW_cond (by simp; rfl) ?_ ?_ <;> (intro hb; first | (exfalso; exact absurd hb (by decide)) | skip)))
        refine ⟨.inr rfl, by simp [Tryd.results51], keep_of G0F (by simp) (by (intro k hk; first | rfl | (simp (disch := omega) only [addB, List.mem_cons, List.not_mem_nil, or_false, upd_other, hpL_cons, hpL_nil, if_neg, updL] <;> done)))⟩
      exfalso
      omega
theorem rig10_fun (b : Blk) (off n cap : Nat) (f : Nat → Int) (h : SB b off n f) (st : Int) :
    Fun Tryd.prog G0 25 #[.agg #[.int .i64 st, .slice (some ⟨100, off, none⟩) n cap]] (hpL G0 [(100, b)]) (keys [(100, b)]) (.ret (.bool (rightB st f n)) []) := by
  refine fun_ofL (B := 200) G0F Tryd.func25 rfl Tryd.call25 (oneL_ok h.fx) ?_ (by simp) (by simp) (by simp) (by simp [Tryd.ntmps25]) (by omega) ?_
  · simp [idsV, idsA, idsF, ids0, keys]
  intro C hC hC0 hY
  have hr := fun ρ => Blk.fx_rn h.fx ρ
  unfold rightB
  by_cases c0 : -1073741824 ≤ st
  · by_cases c1 : st ≤ 1073741824
    · have es : stB st = true := decide_eq_true ⟨c0, c1⟩
      rw [es]
      by_cases c2 : 1 ≤ n
      · have c2' : (1 : Int) ≤ n := by omega
        have c2'' : 0 < n := by omega
        by_cases c3 : n ≤ 4
        · have c4 : (n : Int) ≤ 4 := by omega
          have e : decide (1 ≤ n ∧ n ≤ 4) = true := decide_eq_true (by omega)
          rw [e]
          repeat' (first | refine GW_seq ?_ | simp only [List.length_cons, List.length_nil, Nat.reduceAdd, Nat.reduceMul, wN] | ((first | refine GW_region' [51] (by kernel_rfl) ?_ | refine GW_draw' [51] follows (by kernel_rfl) (by kernel_rfl) ?_); intro Q hQ hP; simp [hC, hY, c0, c1, c2, c2', c2'', c3, c4]; (repeat ((first | (refine heapK_mv (w10_fun b off n cap f h st) G0F (B := 200) (oneL_ok h.fx) (fun k => k) (fun k hk => rfl) (by simp [ren, renA, renF, ren0]) (by simp) (by simp [hr]) (by simp [keys]) (by simp [keys]; rfl) ?_)); try simp [hC, hY, c0, c1, c2, c2', c2'', c3, c4])); (first | refine hQ _ _ _ _ ?_ | refine hQ _ _ _ _ (by kernel_rfl) ?_ | refine hP _ _ (fun _ => ?_) | refine hP _ _ (by kernel_rfl) (fun _ => ?_)); clear hQ hP Q) | refine GW_block ?_ | refine GW_ret ?_ | refine GW_skip ?_ | refine GW_exit ?_ | refine GW_goto ?_ | refine GW_label ?_ | simp only [blockG_exit] | (refine GW_cond (by simp; rfl) ?_ ?_ <;> (intro hb; first | (exfalso; exact absurd hb (by decide)) | skip)))
          refine ⟨.inr rfl, by simp [Tryd.results25], keep_of G0F (by simp) (by (intro k hk; first | rfl | (simp (disch := omega) only [addB, List.mem_cons, List.not_mem_nil, or_false, upd_other, hpL_cons, hpL_nil, if_neg, updL] <;> done)))⟩
        · have c4 : ¬ (n : Int) ≤ 4 := by omega
          have e : decide (1 ≤ n ∧ n ≤ 4) = false := decide_eq_false (by omega)
          rw [e]
          repeat' (first | refine GW_seq ?_ | simp only [List.length_cons, List.length_nil, Nat.reduceAdd, Nat.reduceMul, wN] | ((first | refine GW_region' [] (by kernel_rfl) ?_ | refine GW_draw' [] follows (by kernel_rfl) (by kernel_rfl) ?_); intro Q hQ hP; simp [hC, hY, c0, c1, c2, c2', c2'', c3, c4]; (first | refine hQ _ _ _ _ ?_ | refine hQ _ _ _ _ (by kernel_rfl) ?_ | refine hP _ _ (fun _ => ?_) | refine hP _ _ (by kernel_rfl) (fun _ => ?_)); clear hQ hP Q) | refine GW_block ?_ | refine GW_ret ?_ | refine GW_skip ?_ | refine GW_exit ?_ | refine GW_goto ?_ | refine GW_label ?_ | simp only [blockG_exit] | (refine GW_cond (by simp; rfl) ?_ ?_ <;> (intro hb; first | (exfalso; exact absurd hb (by decide)) | skip)))
          refine ⟨.inr rfl, by simp [Tryd.results25], keep_of G0F (by simp) (by (intro k hk; first | rfl | (simp (disch := omega) only [addB, List.mem_cons, List.not_mem_nil, or_false, upd_other, hpL_cons, hpL_nil, if_neg, updL] <;> done)))⟩
      · have c2' : ¬ (1 : Int) ≤ n := by omega
        have c2'' : ¬ 0 < n := by omega
        have c2''' : n = 0 := by omega
        have e : decide (1 ≤ n ∧ n ≤ 4) = false := decide_eq_false (by omega)
        rw [e]
        repeat' (first | refine GW_seq ?_ | simp only [List.length_cons, List.length_nil, Nat.reduceAdd, Nat.reduceMul, wN] | ((first | refine GW_region' [] (by kernel_rfl) ?_ | refine GW_draw' [] follows (by kernel_rfl) (by kernel_rfl) ?_); intro Q hQ hP; simp [hC, hY, c0, c1, c2, c2', c2'', c2''']; (first | refine hQ _ _ _ _ ?_ | refine hQ _ _ _ _ (by kernel_rfl) ?_ | refine hP _ _ (fun _ => ?_) | refine hP _ _ (by kernel_rfl) (fun _ => ?_)); clear hQ hP Q) | refine GW_block ?_ | refine GW_ret ?_ | refine GW_skip ?_ | refine GW_exit ?_ | refine GW_goto ?_ | refine GW_label ?_ | simp only [blockG_exit] | (refine GW_cond (by simp; rfl) ?_ ?_ <;> (intro hb; first | (exfalso; exact absurd hb (by decide)) | skip)))
        refine ⟨.inr rfl, by simp [Tryd.results25], keep_of G0F (by simp) (by (intro k hk; first | rfl | (simp (disch := omega) only [addB, List.mem_cons, List.not_mem_nil, or_false, upd_other, hpL_cons, hpL_nil, if_neg, updL] <;> done)))⟩
    · have es : stB st = false := decide_eq_false (by omega)
      rw [es]
      repeat' (first | refine GW_seq ?_ | simp only [List.length_cons, List.length_nil, Nat.reduceAdd, Nat.reduceMul, wN] | ((first | refine GW_region' [] (by kernel_rfl) ?_ | refine GW_draw' [] follows (by kernel_rfl) (by kernel_rfl) ?_); intro Q hQ hP; simp [hC, hY, c0, c1]; (first | refine hQ _ _ _ _ ?_ | refine hQ _ _ _ _ (by kernel_rfl) ?_ | refine hP _ _ (fun _ => ?_) | refine hP _ _ (by kernel_rfl) (fun _ => ?_)); clear hQ hP Q) | refine GW_block ?_ | refine GW_ret ?_ | refine GW_skip ?_ | refine GW_exit ?_ | refine GW_goto ?_ | refine GW_label ?_ | simp only [blockG_exit] | (refine GW_cond (by simp; rfl) ?_ ?_ <;> (intro hb; first | (exfalso; exact absurd hb (by decide)) | skip)))
      refine ⟨.inr rfl, by simp [Tryd.results25], keep_of G0F (by simp) (by (intro k hk; first | rfl | (simp (disch := omega) only [addB, List.mem_cons, List.not_mem_nil, or_false, upd_other, hpL_cons, hpL_nil, if_neg, updL] <;> done)))⟩
  · have es : stB st = false := decide_eq_false (by omega)
    rw [es]
    repeat' (first | refine GW_seq ?_ | simp only [List.length_cons, List.length_nil, Nat.reduceAdd, Nat.reduceMul, wN] | ((first | refine GW_region' [] (by kernel_rfl) ?_ | refine GW_draw' [] follows (by kernel_rfl) (by kernel_rfl) ?_); intro Q hQ hP; simp [hC, hY, c0]; (first | refine hQ _ _ _ _ ?_ | refine hQ _ _ _ _ (by kernel_rfl) ?_ | refine hP _ _ (fun _ => ?_) | refine hP _ _ (by kernel_rfl) (fun _ => ?_)); clear hQ hP Q) | refine GW_block ?_ | refine GW_ret ?_ | refine GW_skip ?_ | refine GW_exit ?_ | refine GW_goto ?_ | refine GW_label ?_ | simp only [blockG_exit] | (refine GW_cond (by simp; rfl) ?_ ?_ <;> (intro hb; first | (exfalso; exact absurd hb (by decide)) | skip)))
    refine ⟨.inr rfl, by simp [Tryd.results25], keep_of G0F (by simp) (by (intro k hk; first | rfl | (simp (disch := omega) only [addB, List.mem_cons, List.not_mem_nil, or_false, upd_other, hpL_cons, hpL_nil, if_neg, updL] <;> done)))⟩
theorem rig10_nil (st : Int) : Ret Tryd.prog G0 25 #[.agg #[.int .i64 st, .slice none 0 0]] (.bool false) := by
  refine ret_of G0F Tryd.func25 rfl Tryd.call25 rfl (by simp) (by simp [Tryd.ntmps25]) ?_
  intro C hC hC0 hY
  by_cases c0 : -1073741824 ≤ st
  · by_cases c1 : st ≤ 1073741824
    · (repeat' (first | refine GW_seq ?_ | simp only [List.length_cons, List.length_nil, Nat.reduceAdd, Nat.reduceMul, wN] | ((first | refine GW_region' [] (by kernel_rfl) ?_ | refine GW_draw' [] follows (by kernel_rfl) (by kernel_rfl) ?_); intro Q hQ hP; simp [hC, hY, c0, c1]; (first | refine hQ _ _ _ _ ?_ | refine hQ _ _ _ _ (by kernel_rfl) ?_ | refine hP _ _ (fun _ => ?_) | refine hP _ _ (by kernel_rfl) (fun _ => ?_)); clear hQ hP Q) | refine GW_block ?_ | refine GW_ret ?_ | refine GW_skip ?_ | refine GW_exit ?_ | refine GW_goto ?_ | refine GW_label ?_ | simp only [blockG_exit] | (refine GW_cond (by simp; rfl) ?_ ?_ <;> (intro hb; first | (exfalso; exact absurd hb (by decide)) | skip))))
      refine ⟨.inr trivial, ?_⟩
      simp [Tryd.results25]
    · (repeat' (first | refine GW_seq ?_ | simp only [List.length_cons, List.length_nil, Nat.reduceAdd, Nat.reduceMul, wN] | ((first | refine GW_region' [] (by kernel_rfl) ?_ | refine GW_draw' [] follows (by kernel_rfl) (by kernel_rfl) ?_); intro Q hQ hP; simp [hC, hY, c0, c1]; (first | refine hQ _ _ _ _ ?_ | refine hQ _ _ _ _ (by kernel_rfl) ?_ | refine hP _ _ (fun _ => ?_) | refine hP _ _ (by kernel_rfl) (fun _ => ?_)); clear hQ hP Q) | refine GW_block ?_ | refine GW_ret ?_ | refine GW_skip ?_ | refine GW_exit ?_ | refine GW_goto ?_ | refine GW_label ?_ | simp only [blockG_exit] | (refine GW_cond (by simp; rfl) ?_ ?_ <;> (intro hb; first | (exfalso; exact absurd hb (by decide)) | skip))))
      refine ⟨.inr trivial, ?_⟩
      simp [Tryd.results25]
  · (repeat' (first | refine GW_seq ?_ | simp only [List.length_cons, List.length_nil, Nat.reduceAdd, Nat.reduceMul, wN] | ((first | refine GW_region' [] (by kernel_rfl) ?_ | refine GW_draw' [] follows (by kernel_rfl) (by kernel_rfl) ?_); intro Q hQ hP; simp [hC, hY, c0]; (first | refine hQ _ _ _ _ ?_ | refine hQ _ _ _ _ (by kernel_rfl) ?_ | refine hP _ _ (fun _ => ?_) | refine hP _ _ (by kernel_rfl) (fun _ => ?_)); clear hQ hP Q) | refine GW_block ?_ | refine GW_ret ?_ | refine GW_skip ?_ | refine GW_exit ?_ | refine GW_goto ?_ | refine GW_label ?_ | simp only [blockG_exit] | (refine GW_cond (by simp; rfl) ?_ ?_ <;> (intro hb; first | (exfalso; exact absurd hb (by decide)) | skip))))
    refine ⟨.inr trivial, ?_⟩
    simp [Tryd.results25]
@[simp] theorem rig10N (st : Int) (K : Value → Prop) : callK Tryd.prog G0 25 #[.agg #[.int .i64 st, .slice none 0 0]] K ↔ K (.bool false) := callK_iff G0W (by kernel_rfl) (rig10_nil st)
end Go.Gy
namespace Go.Gy
set_option linter.unusedSimpArgs false
open Go Go.RowKit
section
variable {P : Program} {C : Ctx} {n : Nat} {d : List Deferred} {ro : Option Nat} {s : GS} {K : Exit → GS → Prop}
theorem GL_bs0 {ops : Array Oper} {o : Oper} {post : List Oper} {base k : Nat} {ts : Nat → Value} {hp : Hp} {yc : Nat} {T e : TypeId} {m : Nat} (hg : o.guard = none) (hd : ∀ dd, o.dst = some dd → dd < n)
    (ho : o.op = .buildSlice T 0 #[]) (hu : P.underlying T = some (.slice e)) (hm : tySize P e = some m)
    (h : GL P C n d ro ops base (k + 1) post (putT ts o.dst (.slice (some ⟨base + 8 * k, 0, none⟩) 0 0)) (upd hp (base + 8 * k) (some ⟨#[], .ty e⟩)) yc K) : GL P C n d ro ops base k (o :: post) ts hp yc K := by
  intro r a W hi hf hb hG hR
  refine wpListIn_plain hg fun K' hK' => ?_
  have hnk : hp (base + 8 * k) = none := hf _ (Nat.le_refl _)
  have hff : ∀ x ∈ (#[] : Array Value), flatF x = true := by simp
  have hnd : ¬ dom hp (base + 8 * k) := by unfold dom; simp [hnk]
  have hr' : ∀ q, dom hp q → upd r (base + 8 * k) W.heap.size q = r q := fun q hq => upd_other _ _ (fun e => hnd (e ▸ hq))
  refine wp_of_upon (by rw [ho]; intro c; simp) (R := fun u W' => u = .slice (some ⟨W.heap.size, 0, none⟩) 0 0 ∧ W' = W.alloc (.cells #[] e)) (Rp := fun _ _ => False) ?_ (fun u W' h' => ?_) (fun pv W' h => h.elim)
  · unfold Upon
    simp only [execOp, ho, Instr.buildSlice, Sem.run_bind, run_underlying hu, Result.andThen_ok, run_sizeOf hm, Nat.zero_mul]
    simp [Instr.fill, newRow, newObj, Sem.run]
    rw [show Array.range 0 = #[] from rfl, show ∀ f : Nat → Value, Array.map f #[] = #[] from fun f => by simp]
  · obtain ⟨rfl, rfl⟩ := h'
    have hv : (Value.slice (some ⟨W.heap.size, 0, none⟩) 0 0) = ren (upd r (base + 8 * k) W.heap.size) (.slice (some ⟨base + 8 * k, 0, none⟩) 0 0) := by simp [ren, renA, renF, ren0, upd]
    rw [hv]
    refine hK' _ _ (h (upd r (base + 8 * k) W.heap.size) _ _ (hi.after (e := ⟨.slice (some ⟨base + 8 * k, 0, none⟩) 0 0, [], [], [(base + 8 * k, ⟨#[], .ty e⟩)], none, false⟩) hd hr' (by simp [idsV, idsA, idsF, ids0, extD, keys]) ⟨rfl, rfl, rfl, (by show W.heap.size ≤ (W.heap.push _).size; simp), fun q hq _ => ?_, fun p hp1 => ?_, fun p hp1 => ?_, by simp⟩ (by simp [keys]) (by simp [keys, hnk]; omega)) (fun x hx' => ?_) hb hG hR)
    · exact Below.heap_alloc _ _ _ hq
    · simp only [List.nil_append, List.mem_singleton] at hp1
      subst hp1
      refine ⟨?_, Blk.flat_ids hff⟩
      rw [Blk.obj_flat hff]
      show (W.alloc _).heap[upd r (base + 8 * k) W.heap.size (base + 8 * k)]? = _
      rw [upd_same]
      exact heap_alloc_new W _
    · simp only [List.mem_singleton] at hp1
      subst hp1
      show W.heap.size ≤ upd r (base + 8 * k) W.heap.size (base + 8 * k)
      rw [upd_same]
      exact Nat.le_refl _
    · rw [upd_other _ _ (fun e => by omega)]
      exact hf x (by omega)
/-- A row, so far: i of m ints each, as G says; or nothing yet. -/
def RowAt (m i : Nat) (G : Nat → Int) (e : TypeId) (hp : Hp) (sl : Value) : Prop := (i = 0 ∧ sl = .slice none 0 0) ∨ ∃ (k c : Nat) (g : Nat → Int), 100 ≤ k ∧ sl = .slice (some ⟨k, 0, none⟩) i c ∧ hp k = some ⟨fa (m * c) .i64 g, .ty e⟩ ∧ i ≤ c ∧ ∀ j, j < m * i → g j = G j
/-- One more is laid behind a row. -/
theorem GL_push {ops : Array Oper} {o : Oper} {post : List Oper} {base k : Nat} {ts : Nat → Value} {hp : Hp} {yc : Nat} {tx ty : Tmp} {t e : TypeId} {m i j by' : Nat} {z : Value} {T2 : BTy} {G ev : Nat → Int} (hg : o.guard = none) (hd : ∀ dd, o.dst = some dd → dd < n)
    (ho : o.op = .call { callee := .builtin .append, args := #[.tmp tx, .tmp ty], argTypes := #[t, t] }) (ht : P.underlying t = some (.slice e)) (hs : tySize P e = some m) (hz : tyZero P e = some z) (hby : tyBytes P e = some by') (hb8 : by' ≤ 8 * m)
    (hzz : ∀ x ∈ z.cells, x = .int .i64 0) (hzs : z.cells.size = m) (hm0 : 0 < m) (hm1 : m ≤ 1024) (hx : RowAt m i G e hp (ts tx)) (hy : ts ty = .slice (some ⟨j, 0, none⟩) 1 1) (hb2 : hp j = some ⟨fa m .i64 ev, T2⟩) (hev : ∀ q, q < m → ev q = G (m * i + q)) (hi20 : i ≤ 1048576)
    (h : ∀ k' c' g', (k' = base + 8 * k ∨ ∃ c, ts tx = .slice (some ⟨k', 0, none⟩) i c) → 100 ≤ k' → i + 1 ≤ c' → (∀ q, q < m * (i + 1) → g' q = G q) →
      GL P C n d ro ops base (k + 1) post (putT ts o.dst (.slice (some ⟨k', 0, none⟩) (i + 1) c')) (upd hp k' (some ⟨fa (m * c') .i64 g', .ty e⟩)) yc K) : GL P C n d ro ops base k (o :: post) ts hp yc K := by
  have hzf : ∀ q, ∀ x ∈ Builtin.zeroCells z.cells q, flatF x = true := fun q x hx => by rw [hzz x (zc_mem hx)]; rfl
  by_cases hb100 : ¬ 100 ≤ base
  · intro r a W hi hf hb hG hR
    exact absurd hb hb100
  replace hb100 : 100 ≤ base := Classical.not_not.1 hb100
  have hle : m * (i + 1) = m * i + m := by rw [Nat.mul_add, Nat.mul_one]
  have hmi : m * i ≤ 1024 * 1048576 := Nat.mul_le_mul hm1 hi20
  have h8 : (i + 1) * by' ≤ 140737488355328 := by
    have : (i + 1) * by' ≤ 1048577 * (8 * m) := Nat.mul_le_mul (by omega) hb8
    omega
  rcases hx with ⟨rfl, hx⟩ | ⟨k0, c, g, hk0, hx, hb, hic, hgG⟩
  · refine GL_app0 (nw := (fa m .i64 ev).toList) hg hd ho ht hs hz hby hx hy hb2 (fun q u hq => by simpa using hq) fa_list_flat hzf (by omega) (by simp) (by unfold maxLen; omega) (by omega) (fun cap' hc' => ?_)
    rw [zeros_fa (k := .i64) hzz, app_new, hzs]
    have em : m + (cap' - 1) * m = m * cap' := by
      have : cap' = (cap' - 1) + 1 := by omega
      rw [this, Nat.mul_add, Nat.mul_comm m]; simp; omega
    rw [em]
    refine h _ cap' _ (.inl rfl) (by omega) (by omega) fun q hq => ?_
    unfold catN
    rw [if_pos (by omega)]
    have := hev q (by omega)
    simpa using this
  · refine GL_app hg hd (appX_mk (c := (fa (m * c) .i64 g).toList) (c2 := (fa m .i64 ev).toList) (k := k0) (j := j) (m := 1) (m' := 1) (sl := i) (cap := c) (e := e) (T2 := T2) (sz := m) (by' := by') (z := z) ho ht hs hz hby hx hk0 (by simpa using hb) fa_list_flat hy (by simpa using hb2) fa_list_flat fa_list_one hzf (by simp) (by rw [fa_toList_len, Nat.mul_comm]; exact Nat.le_refl _) hic (by unfold maxLen; omega) h8 (fun hr => ?_) (fun hr cap' hc' => ?_))
    · have hcm : m * (i + 1) ≤ m * c := Nat.mul_le_mul (Nat.le_refl _) hr
      rw [Nat.mul_comm i m, app_room (by omega)]
      refine h k0 c _ (.inr ⟨c, hx⟩) hk0 hr fun q hq => ?_
      unfold putN
      by_cases hq1 : q < m * i
      · rw [if_neg (by omega)]; exact hgG q hq1
      · rw [if_pos (by omega), hev _ (by omega)]; congr 1; omega
    · have hcm : m * i ≤ m * c := Nat.mul_le_mul (Nat.le_refl _) hic
      rw [Nat.mul_comm i m, zeros_fa (k := .i64) hzz, hzs, app_grow (by omega)]
      have em : m * i + m + (cap' - (i + 1)) * m = m * cap' := by
        obtain ⟨x, rfl⟩ : ∃ x, cap' = i + 1 + x := ⟨cap' - (i + 1), by omega⟩
        rw [show i + 1 + x - (i + 1) = x by omega, Nat.mul_add, Nat.mul_add, Nat.mul_one, Nat.mul_comm x m]
      rw [em]
      refine h _ cap' _ (.inl rfl) (by omega) hc' fun q hq => ?_
      unfold catN
      by_cases hq1 : q < m * i
      · rw [if_pos hq1]; exact hgG q hq1
      · rw [if_neg hq1, if_pos (by omega), hev _ (by omega)]; congr 1; omega
/-- A contract over a list that hands back any of a kind, by other names. -/
theorem FunS.mvL {G : Hp} {f : FuncId} {args args' : Array Value} {m : List (Nat × Blk)} {B : Nat} {R R' : Value → List (Nat × Blk) → Prop} {hp' : Hp} {rs' : List Nat} (h : FunS P G f args (hpL G m) (keys m) R) (hGF : GFlat G) (hm : LOk m B) (ρ : Nat → Nat) (hlow : ∀ k, k < 100 → ρ k = k)
    (ea : args.map (ren ρ) = args') (er : (keys m).map ρ = rs') (eR : RR ρ R = R') (hp0 : ∀ k, k < 100 → hp' k = G k) (hat : ∀ p ∈ m, 100 ≤ ρ p.1 ∧ hp' (ρ p.1) = some (p.2.rn ρ)) (hinj : ∀ k ∈ keys m, ∀ l ∈ keys m, ρ k = ρ l → k = l)
    (hnew : ∀ v ns, R v ns → ∀ k ∈ keys ns, 100 ≤ ρ k ∧ ρ k ∉ rs') (hnj : ∀ v ns, R v ns → ∀ k ∈ keys ns, ∀ l ∈ keys ns, ρ k = ρ l → k = l) : FunS P G f args' hp' rs' R' := by
  subst ea er eR
  refine h.rn ρ hGF hm.low (rn_ofL hm ρ hlow hp0 hat hinj) (fun v ns hR k hk => ?_) hnj
  obtain ⟨h1, h2⟩ := hnew v ns hR k hk
  refine ⟨h1, fun hd => hd ?_⟩
  unfold rst
  rw [if_neg]
  rintro (h3 | h3)
  · omega
  · exact h2 h3
/-- What a call asks that hands back any of a kind; the variables by name. -/
theorem GL_callL {G : Hp} {ops : Array Oper} {o : Oper} {post : List Oper} {base k : Nat} {ts : Nat → Value} {hp hp' : Hp} {yc : Nat} {c : Call} {f : Operand} {g : FuncId} {cap : Array Value} {rs : List Nat} {args : Array Value} {R : Value → List (Nat × Blk) → Prop} (hCG : C.G = G) (hr : FunS P G g args hp' rs R) (hg : o.guard = none) (hd : ∀ dd, o.dst = some dd → dd < n)
    (ho : o.op = .call c) (hc : c.callee = .value f) (hf : okT ts f) (hgf : gev ts f = .func (.func g) #[] cap) (hcp : cap.all plain0 = true) (ha : ∀ x ∈ c.args.toList, okX ts hp x) (hargs : c.args.map (gev ts) ++ cap = args)
    (h1 : ∀ q ∈ rs, hp' q = hp q) (h2 : ∀ q, q < 100 → hp' q = hp q) (hat : ∀ v ns, R v ns → ∀ q ∈ keys ns, base + 8 * k ≤ q ∧ q < base + 8 * k + 8)
    (h : ∀ v ns, R v ns → GL P C n d ro ops base (k + 1) post (putT ts o.dst v) (updL hp ns) yc K) : GL P C n d ro ops base k (o :: post) ts hp yc K := by
  subst hCG
  exact GL_callS hg hd ho hc hf hgf hcp ha hargs hr h1 h2 hat h
end
end Go.Gy
namespace Go.Gy
set_option linter.unusedSimpArgs false
set_option linter.unusedVariables false
open Go Go.RowKit Go.Proofs
/-- Bodies of one's own: a new row that holds them. -/
def OwnR (nk n : Nat) (f : Nat → Int) (v : Value) (ns : List (Nat × Blk)) : Prop := ∃ (c M : Nat) (g : Nat → Int), n ≤ c ∧ 6 * n ≤ M ∧ (∀ j, j < 6 * n → g j = f j) ∧ v = .slice (some ⟨nk, 0, none⟩) n c ∧ ns = [(nk, ⟨fa M .i64 g, .ty 44⟩)]
theorem fa_fx (M : Nat) (g : Nat → Int) (T : TypeId) : Blk.fx ⟨fa M .i64 g, .ty T⟩ := fun x hx => by
  obtain ⟨m, rfl⟩ := fa_mem hx; rfl
theorem own_fit {b : Blk} {n : Nat} {f : Nat → Int} (v : Value) (ns : List (Nat × Blk)) (h : OwnR 1000 n f v ns) : idsV (extD (fun k => k ∈ keys [(100, b)]) ns) v ∧ (∀ p ∈ ns, 200 ≤ p.1 ∧ p.2.ids (extD (fun k => k ∈ keys [(100, b)]) ns)) ∧ (∀ k b c, (k, b) ∈ ns → (k, c) ∈ ns → b = c) := by
  obtain ⟨c, M, g, h1, h2, h3, rfl, rfl⟩ := h
  refine ⟨by simp [idsV, idsA, idsF, ids0, extD, keys], ?_, ?_⟩
  · simp only [List.mem_singleton, forall_eq]
    exact ⟨by omega, Blk.fx_ids (fa_fx _ _ _) _⟩
  · intro k b c h1 h2
    simp at h1 h2
    rw [h1.2, h2.2]
theorem clone_fun (b : Blk) (off n cap : Nat) (f : Nat → Int) (h : SB b off n f) (hcap : n ≤ cap) :
    FunS Tryd.prog G0 81 #[.slice (some ⟨100, off, none⟩) n cap] (hpL G0 [(100, b)]) (keys [(100, b)]) (OwnR 1000 n f) := by
  refine newS_ofL (B := 200) G0F Tryd.func81 rfl Tryd.call81 (oneL_ok h.fx) ?_ own_fit (by simp [Tryd.ntmps81]) (by omega) ?_
  · simp [idsV, idsA, idsF, ids0, keys]
  intro C hC hC0 hY
  have hnn := h.nn
  repeat' (first | refine GW_seq ?_ | simp only [List.length_cons, List.length_nil, Nat.reduceAdd, Nat.reduceMul, wN] | ((first | refine GW_region' [] (by kernel_rfl) ?_ | refine GW_draw' [] follows (by kernel_rfl) (by kernel_rfl) ?_); intro Q hQ hP; simp [hC, hY]; (first | refine hQ _ _ _ _ ?_ | refine hQ _ _ _ _ (by kernel_rfl) ?_ | refine hP _ _ (fun _ => ?_) | refine hP _ _ (by kernel_rfl) (fun _ => ?_)); clear hQ hP Q) | refine GW_block ?_ | refine GW_ret ?_ | refine GW_skip ?_ | refine GW_exit ?_ | refine GW_goto ?_ | refine GW_label ?_ | simp only [blockG_exit] | (refine GW_cond (by simp; rfl) ?_ ?_ <;> (intro hb; first | (exfalso; exact absurd hb (by decide)) | skip)))
  refine GW_list ?_
  simp only [Array.toList]
  refine GL_bs0 rfl (by simp) rfl Tryd.underlying22 (tySize_of Tryd.sizeOf44) ?_
  refine GL_walk 1 [] rfl (by simp) (by kernel_rfl) ?_; intro q hq; simp [hC, hY]; refine hq _ _ _ _ ?_; clear hq q
  simp only [wT, List.length_cons, List.length_nil, Nat.reduceAdd]
  by_cases hn0 : n = 0
  · subst hn0
    refine GL_appZ (p := some (224, 0)) (q := some (100, off)) rfl (by simp) rfl Tryd.underlying22 (tySize_of Tryd.sizeOf44) (by simp; rfl) (by simp; rfl) (Nat.le_refl _) ?_
    refine GL_walk 1 [] rfl (by simp) (by kernel_rfl) ?_; intro q hq; simp [hC, hY, putT]; refine hq _ _ _ _ ?_; clear hq q
    simp only [wT, List.length_cons, List.length_nil, Nat.reduceAdd]
    refine GL_nil ?_
    repeat' (first | refine GW_seq ?_ | simp only [List.length_cons, List.length_nil, Nat.reduceAdd, Nat.reduceMul, wN] | ((first | refine GW_region' [] (by kernel_rfl) ?_ | refine GW_draw' [] follows (by kernel_rfl) (by kernel_rfl) ?_); intro Q hQ hP; simp [hC, hY]; (first | refine hQ _ _ _ _ ?_ | refine hQ _ _ _ _ (by kernel_rfl) ?_ | refine hP _ _ (fun _ => ?_) | refine hP _ _ (by kernel_rfl) (fun _ => ?_)); clear hQ hP Q) | refine GW_block ?_ | refine GW_ret ?_ | refine GW_skip ?_ | refine GW_exit ?_ | refine GW_goto ?_ | refine GW_label ?_ | simp only [blockG_exit] | (refine GW_cond (by simp; rfl) ?_ ?_ <;> (intro hb; first | (exfalso; exact absurd hb (by decide)) | skip)))
    refine ⟨.inr trivial, keep_of G0F (by simp) (by (intro k hk; first | rfl | (simp (disch := omega) only [addB, List.mem_cons, List.not_mem_nil, or_false, upd_other, hpL_cons, hpL_nil, if_neg, updL] <;> done))), _, _, fun k => if k = 1000 then 224 else k, ⟨0, 0, f, Nat.le_refl _, by omega, fun _ _ => rfl, rfl, rfl⟩, fun k hk => if_neg (by omega), by simp, by simp, by simp [Tryd.results81, ren, renA, renF, ren0], ?_⟩
    simp [fa, Blk.rn]
  · refine GL_app0 (p := some ⟨224, 0, none⟩) (j := 100) (b2 := b) (off2 := off) (m := n) (m' := cap) (nw := (fa (6 * n) .i64 f).toList) (sz := 6) (by' := 48) (z := .agg #[.int .i64 0, .int .i64 0, .int .i64 0, .int .i64 0, .int .i64 0, .int .i64 0]) rfl (by simp) rfl Tryd.underlying22 (tySize_of Tryd.sizeOf44) ?_ ?_ ?_ ?_ ?_ (rdI_nw h.rd) fa_list_flat (fun q x hx => ?_) (by omega) (by simp; omega) (by unfold maxLen; omega) (by omega) (fun cap' hc' => ?_)
    · kernel_rfl
    · kernel_rfl
    · simp
    · simp
    · simp
    · have := zc_mem hx
      simp [Value.cells] at this
      subst this
      rfl
    · rw [zeros_fa (k := .i64) (by simp), app_new]
      refine GL_walk 1 [] rfl (by simp) (by kernel_rfl) ?_; intro q hq; simp [hC, hY, putT]; refine hq _ _ _ _ ?_; clear hq q
      simp only [wT, List.length_cons, List.length_nil, Nat.reduceAdd]
      refine GL_nil ?_
      repeat' (first | refine GW_seq ?_ | simp only [List.length_cons, List.length_nil, Nat.reduceAdd, Nat.reduceMul, wN] | ((first | refine GW_region' [] (by kernel_rfl) ?_ | refine GW_draw' [] follows (by kernel_rfl) (by kernel_rfl) ?_); intro Q hQ hP; simp [hC, hY]; (first | refine hQ _ _ _ _ ?_ | refine hQ _ _ _ _ (by kernel_rfl) ?_ | refine hP _ _ (fun _ => ?_) | refine hP _ _ (by kernel_rfl) (fun _ => ?_)); clear hQ hP Q) | refine GW_block ?_ | refine GW_ret ?_ | refine GW_skip ?_ | refine GW_exit ?_ | refine GW_goto ?_ | refine GW_label ?_ | simp only [blockG_exit] | (refine GW_cond (by simp; rfl) ?_ ?_ <;> (intro hb; first | (exfalso; exact absurd hb (by decide)) | skip)))
      refine ⟨.inr trivial, keep_of G0F (by simp) (by (intro k hk; first | rfl | (simp (disch := omega) only [addB, List.mem_cons, List.not_mem_nil, or_false, upd_other, hpL_cons, hpL_nil, if_neg, updL] <;> done))), _, _, fun k => if k = 1000 then 224 + 16 else k, ⟨cap', 6 * n + (cap' - n) * 6, catN f (6 * n) 0 f, hc', ?_, ?_, rfl, rfl⟩, fun k hk => if_neg (by omega), by simp, by simp, by simp [Tryd.results81, ren, renA, renF, ren0], ?_⟩
      · omega
      · intro j hj
        unfold catN
        rw [if_pos (by omega)]
      · simp only [List.mem_singleton, forall_eq]
        rw [fa_rn]
        simp
/-- A state of one's own. -/
def OwnS (nk : Nat) (st : Int) (n : Nat) (f : Nat → Int) (v : Value) (ns : List (Nat × Blk)) : Prop := ∃ (c M : Nat) (g : Nat → Int), n ≤ c ∧ 6 * n ≤ M ∧ (∀ j, j < 6 * n → g j = f j) ∧ v = .agg #[.int .i64 st, .slice (some ⟨nk, 0, none⟩) n c] ∧ ns = [(nk, ⟨fa M .i64 g, .ty 44⟩)]
theorem owns_fit {b : Blk} {st : Int} {n : Nat} {f : Nat → Int} (v : Value) (ns : List (Nat × Blk)) (h : OwnS 1000 st n f v ns) : idsV (extD (fun k => k ∈ keys [(100, b)]) ns) v ∧ (∀ p ∈ ns, 200 ≤ p.1 ∧ p.2.ids (extD (fun k => k ∈ keys [(100, b)]) ns)) ∧ (∀ k b c, (k, b) ∈ ns → (k, c) ∈ ns → b = c) := by
  obtain ⟨c, M, g, h1, h2, h3, rfl, rfl⟩ := h
  refine ⟨by simp [idsV, idsA, idsF, ids0, extD, keys], ?_, ?_⟩
  · simp only [List.mem_singleton, forall_eq]
    exact ⟨by omega, Blk.fx_ids (fa_fx _ _ _) _⟩
  · intro k b c h1 h2
    simp at h1 h2
    rw [h1.2, h2.2]
/-- The contract by the names of the one who calls: block 100 stands there too; the new one's name is nk. -/
theorem FunS.own1 {fn : FuncId} {args : Array Value} {b : Blk} {R : Value → List (Nat × Blk) → Prop} (h : FunS Tryd.prog G0 fn args (hpL G0 [(100, b)]) (keys [(100, b)]) R) (hb : b.fx) (nk : Nat) (hnk : 200 ≤ nk) (hR : ∀ v ns, R v ns → ∀ k ∈ keys ns, k = 1000) (ha : args.map (ren fun k => if k = 1000 then nk else k) = args) :
    FunS Tryd.prog G0 fn args (hpL G0 [(100, b)]) [100] (RR (fun k => if k = 1000 then nk else k) R) := by
  have h0 := h.rn (fun k => if k = 1000 then nk else k) G0F (oneL_ok hb).low (hp' := hpL G0 [(100, b)]) (rn_ofL (oneL_ok hb) _ (fun k hk => if_neg (by omega)) (oneL_ok hb).low (by
    simp only [List.mem_singleton, forall_eq]
    refine ⟨by simp, ?_⟩
    rw [Blk.fx_rn hb]; simp) (by simp [keys])) (fun v ns hr k hk => by
    rw [hR v ns hr k hk, if_pos rfl]
    refine ⟨by omega, fun hd => hd ?_⟩
    simp [rst, keys, show ¬ nk = 100 by omega, show ¬ nk < 100 by omega]) (fun v ns hr k hk l hl _ => by rw [hR v ns hr k hk, hR v ns hr l hl])
  rw [ha] at h0
  simpa [keys] using h0
theorem ownR_rr (nk n : Nat) (f : Nat → Int) : RR (fun k => if k = 1000 then nk else k) (OwnR 1000 n f) = OwnR nk n f := by
  funext v ns
  apply propext
  constructor
  · rintro ⟨v0, ns0, ⟨c, M, g, h1, h2, h3, rfl, rfl⟩, rfl, rfl⟩
    exact ⟨c, M, g, h1, h2, h3, by simp [ren, renA, renF, ren0], by simp [rnL, fa_rn]⟩
  · rintro ⟨c, M, g, h1, h2, h3, rfl, rfl⟩
    exact ⟨_, _, ⟨c, M, g, h1, h2, h3, rfl, rfl⟩, by simp [ren, renA, renF, ren0], by simp [rnL, fa_rn]⟩
theorem ownS_rr (nk : Nat) (st : Int) (n : Nat) (f : Nat → Int) : RR (fun k => if k = 1000 then nk else k) (OwnS 1000 st n f) = OwnS nk st n f := by
  funext v ns
  apply propext
  constructor
  · rintro ⟨v0, ns0, ⟨c, M, g, h1, h2, h3, rfl, rfl⟩, rfl, rfl⟩
    exact ⟨c, M, g, h1, h2, h3, by simp [ren, renA, renF, ren0], by simp [rnL, fa_rn]⟩
  · rintro ⟨c, M, g, h1, h2, h3, rfl, rfl⟩
    exact ⟨_, _, ⟨c, M, g, h1, h2, h3, rfl, rfl⟩, by simp [ren, renA, renF, ren0], by simp [rnL, fa_rn]⟩
theorem clone_at (nk : Nat) (hnk : 200 ≤ nk) (b : Blk) (off n cap : Nat) (f : Nat → Int) (h : SB b off n f) (hcap : n ≤ cap) :
    FunS Tryd.prog G0 81 #[.slice (some ⟨100, off, none⟩) n cap] (hpL G0 [(100, b)]) [100] (OwnR nk n f) := by
  have := (clone_fun b off n cap f h hcap).own1 h.fx nk hnk (fun v ns hR k hk => by
    obtain ⟨c, M, g, h1, h2, h3, rfl, rfl⟩ := hR; simpa [keys] using hk) (by simp [ren, renA, renF, ren0])
  rwa [ownR_rr] at this
theorem own_fun (b : Blk) (off n cap : Nat) (f : Nat → Int) (h : SB b off n f) (hcap : n ≤ cap) (st : Int) :
    FunS Tryd.prog G0 47 #[.agg #[.int .i64 st, .slice (some ⟨100, off, none⟩) n cap]] (hpL G0 [(100, b)]) (keys [(100, b)]) (OwnS 1000 st n f) := by
  refine newS_ofL (B := 200) G0F Tryd.func47 rfl Tryd.call47 (oneL_ok h.fx) ?_ owns_fit (by simp [Tryd.ntmps47]) (by omega) ?_
  · simp [idsV, idsA, idsF, ids0, keys]
  intro C hC hC0 hY
  repeat' (first | refine GW_seq ?_ | simp only [List.length_cons, List.length_nil, Nat.reduceAdd, Nat.reduceMul, wN] | ((first | refine GW_region' [] (by kernel_rfl) ?_ | refine GW_draw' [] follows (by kernel_rfl) (by kernel_rfl) ?_); intro Q hQ hP; simp [hC, hY]; (first | refine hQ _ _ _ _ ?_ | refine hQ _ _ _ _ (by kernel_rfl) ?_ | refine hP _ _ (fun _ => ?_) | refine hP _ _ (by kernel_rfl) (fun _ => ?_)); clear hQ hP Q) | refine GW_block ?_ | refine GW_ret ?_ | refine GW_skip ?_ | refine GW_exit ?_ | refine GW_goto ?_ | refine GW_label ?_ | simp only [blockG_exit] | (refine GW_cond (by simp; rfl) ?_ ?_ <;> (intro hb; first | (exfalso; exact absurd hb (by decide)) | skip)))
  refine GW_list ?_
  simp only [Array.toList]
  refine GL_walk 2 [] rfl (by simp) (by kernel_rfl) ?_; intro q hq; simp [hC, hY]; refine hq _ _ _ _ ?_; clear hq q
  simp only [wT, List.length_cons, List.length_nil, Nat.reduceAdd]
  refine GL_callS (f := .func 81) (args := #[.slice (some ⟨100, off, none⟩) n cap]) (cap := #[]) rfl (by simp) rfl rfl (by simp [okT]) (by simp [gev]) (by simp) (by simp [okX, junk]) (by simp [gev]) (hC.symm ▸ clone_at 232 (by omega) b off n cap f h hcap) (by simp) (by rw [← hC]; (intro k hk; first | rfl | (simp (disch := omega) only [addB, List.mem_cons, List.not_mem_nil, or_false, upd_other, hpL_cons, hpL_nil, if_neg, updL] <;> done))) ?_ ?_
  · rintro v ns ⟨c, M, g, h1, h2, h3, rfl, rfl⟩
    simp [keys]
  · rintro v ns ⟨c, M, g, h1, h2, h3, rfl, rfl⟩
    refine GL_walk 2 [] rfl (by simp) (by kernel_rfl) ?_; intro q hq; simp [hC, hY, putT, updL]; refine hq _ _ _ _ ?_; clear hq q
    simp only [wT, List.length_cons, List.length_nil, Nat.reduceAdd]
    refine GL_nil ?_
    repeat' (first | refine GW_seq ?_ | simp only [List.length_cons, List.length_nil, Nat.reduceAdd, Nat.reduceMul, wN] | ((first | refine GW_region' [] (by kernel_rfl) ?_ | refine GW_draw' [] follows (by kernel_rfl) (by kernel_rfl) ?_); intro Q hQ hP; simp [hC, hY]; (first | refine hQ _ _ _ _ ?_ | refine hQ _ _ _ _ (by kernel_rfl) ?_ | refine hP _ _ (fun _ => ?_) | refine hP _ _ (by kernel_rfl) (fun _ => ?_)); clear hQ hP Q) | refine GW_block ?_ | refine GW_ret ?_ | refine GW_skip ?_ | refine GW_exit ?_ | refine GW_goto ?_ | refine GW_label ?_ | simp only [blockG_exit] | (refine GW_cond (by simp; rfl) ?_ ?_ <;> (intro hb; first | (exfalso; exact absurd hb (by decide)) | skip)))
    refine ⟨.inr trivial, keep_of G0F (by simp) (by (intro k hk; first | rfl | (simp (disch := omega) only [addB, List.mem_cons, List.not_mem_nil, or_false, upd_other, hpL_cons, hpL_nil, if_neg, updL] <;> done))), _, _, fun k => if k = 1000 then 232 else k, ⟨c, M, g, h1, h2, h3, rfl, rfl⟩, fun k hk => if_neg (by omega), by simp, by simp, by simp [Tryd.results47, ren, renA, renF, ren0], ?_⟩
    simp [fa_rn]
theorem own_at (nk : Nat) (hnk : 200 ≤ nk) (b : Blk) (off n cap : Nat) (f : Nat → Int) (h : SB b off n f) (hcap : n ≤ cap) (st : Int) :
    FunS Tryd.prog G0 47 #[.agg #[.int .i64 st, .slice (some ⟨100, off, none⟩) n cap]] (hpL G0 [(100, b)]) [100] (OwnS nk st n f) := by
  have := (own_fun b off n cap f h hcap st).own1 h.fx nk hnk (fun v ns hR k hk => by
    obtain ⟨c, M, g, h1, h2, h3, rfl, rfl⟩ := hR; simpa [keys] using hk) (by simp [ren, renA, renF, ren0])
  rwa [ownS_rr] at this
end Go.Gy
namespace Go.Gy
set_option linter.unusedSimpArgs false
set_option linter.unusedVariables false
open Go Go.RowKit Go.Proofs
/-! of no bodies -/
end Go.Gy
namespace Go.Gy
set_option linter.unusedSimpArgs false
set_option linter.unusedVariables false
open Go Go.RowKit Go.Proofs
/-! a body's drift -/
def dwE (f : Nat → Int) (p q : Int) (i : Nat) : Int := wyE (f (6 * i + 3)) (f (6 * i + 4)) (f (6 * i + 5)) p q
def dwV (f : Nat → Int) (p q : Int) (i j : Nat) : Int := eaV (dwE f p q i) (d1V (f (6 * i + 3 + j)) p q)
def dwA (f : Nat → Int) (p q : Int) (i : Nat) : Value := .agg #[.int .i64 (dwV f p q i 0), .int .i64 (dwV f p q i 1), .int .i64 (dwV f p q i 2)]
def dwXs (f : Nat → Int) (p q : Int) (n : Nat) : List (Array Value) := (List.range n).map fun i => #[dwA f p q i]
theorem dwXs_len (f : Nat → Int) (p q : Int) (n : Nat) : (dwXs f p q n).length = n := by simp [dwXs]
theorem dwXs_at (f : Nat → Int) (p q : Int) (n i : Nat) (h : i < n) : (dwXs f p q n)[i]? = some #[dwA f p q i] := by simp [dwXs, h]
/-! drift.ways -/
def stB' (st : Int) (k off n cap : Nat) : Blk := ⟨#[.int .i64 st, .slice (some ⟨k, off, none⟩) n cap], .ty 24⟩
def fnB (k1 k2 : Nat) : Blk := ⟨#[.func (.func 79) #[] #[.pointer (some ⟨k1, 0, none⟩), .pointer (some ⟨k2, 0, none⟩)]], .ty 73⟩
def wayNs (nk : Nat) (st : Int) (off n cap : Nat) (p q : Int) : List (Nat × Blk) := [(nk, stB' st 100 off n cap), (nk + 1, jb p), (nk + 2, jb q), (nk + 3, fnB (nk + 1) (nk + 2))]
def WayR (nk : Nat) (st : Int) (off n cap : Nat) (p q : Int) (v : Value) (ns : List (Nat × Blk)) : Prop := v = .func (.func 80) #[] #[.pointer (some ⟨nk, 0, none⟩), .pointer (some ⟨nk + 3, 0, none⟩)] ∧ ns = wayNs nk st off n cap p q
theorem ways_fun (b : Blk) (off n cap : Nat) (hb : b.fx) (st p q : Int) :
    FunS Tryd.prog G0 46 #[.agg #[.int .i64 st, .slice (some ⟨100, off, none⟩) n cap], .int .i64 p, .int .i64 q] (hpL G0 [(100, b)]) (keys [(100, b)]) (WayR 1000 st off n cap p q) := by
  refine newS_ofL (B := 200) G0F Tryd.func46 rfl Tryd.call46 (oneL_ok hb) ?_ ?_ (by simp [Tryd.ntmps46]) (by omega) ?_
  · simp [idsV, idsA, idsF, ids0, keys]
  · rintro v ns ⟨rfl, rfl⟩
    refine ⟨by simp [idsV, idsA, idsF, ids0, extD, keys, wayNs], by simp [wayNs, stB', fnB, jb, ids_lit, idsF, ids0, extD, keys], ?_⟩
    intro k b c h1 h2
    simp [wayNs] at h1 h2
    rcases h1 with ⟨e1, rfl⟩ | ⟨e1, rfl⟩ | ⟨e1, rfl⟩ | ⟨e1, rfl⟩ <;> rcases h2 with ⟨e2, rfl⟩ | ⟨e2, rfl⟩ | ⟨e2, rfl⟩ | ⟨e2, rfl⟩ <;> first | rfl | omega
  intro C hC hC0 hY
  repeat' (first | refine GW_seq ?_ | simp only [List.length_cons, List.length_nil, Nat.reduceAdd, Nat.reduceMul, wN] | ((first | refine GW_region' [] (by kernel_rfl) ?_ | refine GW_draw' [] follows (by kernel_rfl) (by kernel_rfl) ?_); intro Q hQ hP; simp [hC, hY]; (first | refine hQ _ _ _ _ ?_ | refine hQ _ _ _ _ (by kernel_rfl) ?_ | refine hP _ _ (fun _ => ?_) | refine hP _ _ (by kernel_rfl) (fun _ => ?_)); clear hQ hP Q) | refine GW_block ?_ | refine GW_ret ?_ | refine GW_skip ?_ | refine GW_exit ?_ | refine GW_goto ?_ | refine GW_label ?_ | simp only [blockG_exit] | (refine GW_cond (by simp; rfl) ?_ ?_ <;> (intro hb; first | (exfalso; exact absurd hb (by decide)) | skip)))
  refine ⟨.inr trivial, keep_of G0F (by simp) (by (intro k hk; first | rfl | (simp (disch := omega) only [addB, List.mem_cons, List.not_mem_nil, or_false, upd_other, hpL_cons, hpL_nil, if_neg, updL] <;> done))), _, _, fun k => if k = 1000 then 200 else if k = 1001 then 208 else if k = 1002 then 216 else if k = 1003 then 240 else k, ⟨rfl, rfl⟩, fun k hk => ?_, by simp [wayNs], by simp [wayNs], by simp [Tryd.results46, ren, renA, renF, ren0], ?_⟩
  · dsimp only
    rw [if_neg (by omega), if_neg (by omega), if_neg (by omega), if_neg (by omega)]
  · simp [wayNs, stB', fnB, jb, Blk.rn, renF, ren0]
/-! its iterator -/
def wyL (b : Blk) (st : Int) (off n cap : Nat) (p q : Int) : List (Nat × Blk) := [(100, stB' st 116 off n cap), (108, fnB 124 132), (116, b), (124, jb p), (132, jb q)]
theorem wyL_ok {b : Blk} (hb : b.fx) (st : Int) (off n cap : Nat) (p q : Int) : LOk (wyL b st off n cap p q) 200 := ⟨by simp [wyL], by simp [wyL, keys], by
  simp only [wyL, List.mem_cons, List.not_mem_nil, or_false, forall_eq_or_imp, forall_eq]
  exact ⟨by simp [stB', ids_lit, idsF, ids0, keys], by simp [fnB, ids_lit, idsF, ids0, keys], Blk.fx_ids hb _, by simp [jb, ids_lit, idsF, ids0], by simp [jb, ids_lit, idsF, ids0]⟩⟩
def wySt (b : Blk) (st : Int) (off n cap : Nat) (p q : Int) (l i : Nat) : GS :=
  ⟨tsL [(0, .func (.yield l) #[] #[]), (1, .pointer (some ⟨100, 0, none⟩)), (2, .pointer (some ⟨108, 0, none⟩)), (7, .slice (some ⟨116, off, none⟩) n cap), (8, .int .i64 n), (9, .int .i64 i)], hpL G0 (wyL b st off n cap p q), 300, i⟩
set_option maxRecDepth 8000 in
theorem ways_it (b : Blk) (off n cap : Nat) (f : Nat → Int) (h : SB b off n f) (st p q : Int) (hp : i64 p) (hq : i64 q) :
    IterK Tryd.prog G0 80 #[.pointer (some ⟨100, 0, none⟩), .pointer (some ⟨108, 0, none⟩)] (hpL G0 (wyL b st off n cap p q)) (keys (wyL b st off n cap p q)) (dwXs f p q n) := by
  refine iterk_ofL (B := 200) (v := .tuple #[]) G0F Tryd.func80 rfl Tryd.call80 (wyL_ok h.fx st off n cap p q) ?_ (by simp [Tryd.ntmps80]) (by omega) ?_
  · simp [idsV, idsA, idsF, ids0, wyL, keys]
  intro C l stop hC hC0 hY
  have hnn := h.nn
  have hid := fun D => Blk.fx_ids h.fx D
  unfold wyL stB' fnB
  repeat' (first | refine GW_seq ?_ | simp only [List.length_cons, List.length_nil, Nat.reduceAdd, Nat.reduceMul, wN] | ((first | refine GW_region' [] (by kernel_rfl) ?_ | refine GW_draw' [] follows (by kernel_rfl) (by kernel_rfl) ?_); intro Q hQ hP; simp [hC, hY]; (first | refine hQ _ _ _ _ ?_ | refine hQ _ _ _ _ (by kernel_rfl) ?_ | refine hP _ _ (fun _ => ?_) | refine hP _ _ (by kernel_rfl) (fun _ => ?_)); clear hQ hP Q) | refine GW_block ?_ | refine GW_ret ?_ | refine GW_skip ?_ | refine GW_exit ?_ | refine GW_goto ?_ | refine GW_label ?_ | simp only [blockG_exit] | (refine GW_cond (by simp; rfl) ?_ ?_ <;> (intro hb; first | (exfalso; exact absurd hb (by decide)) | skip)))
  refine GW_for (min stop n) (wySt b st off n cap p q l) ?_ ?_ ?_
  · refine weakL _ 300 hC G0F (m0 := wyL b st off n cap p q) hC0 (by omega) ?_ ?_ ?_
    · simp [idsV, idsA, idsF, ids0, dom, wyL]
    · simp [wyL, stB', fnB, ids_lit, idsF, ids0, jb, hid, dom]
    · simp [wyL, stB', fnB]
  · intro i hi
    have hin : i < n := by omega
    have hi' : (i : Int) < n := by omega
    have hz : (0 : Int) ≤ i := by omega
    have hs : Int.bmod ((i : Int) + 1) 18446744073709551616 = ((i + 1 : Nat) : Int) := by rw [bm (by omega) (by omega)]; rfl
    have hst : i < stop := by omega
    have hq2 : (i != stop) = true := by simp; omega
    have hle : i ≤ stop := by omega
    have hld := h.body hin
    have hx := dwXs_at f p q n i hin
    unfold wySt wyL stB' fnB
    repeat' (first | refine GW_seq ?_ | simp only [List.length_cons, List.length_nil, Nat.reduceAdd, Nat.reduceMul, wN] | ((first | refine GW_region' [79] (by kernel_rfl) ?_ | refine GW_draw' [79] follows (by kernel_rfl) (by kernel_rfl) ?_); intro Q hQ hP; simp [hC, hY, hin, hi', hz, hs, hst, hq2, hle, hld, hx, jb, dwA, dwV, dwE]; (repeat ((first | (refine heapK_mv (dw1_fun _ _ _ p q (h.i hin 3 (by omega)) (h.i hin 4 (by omega)) (h.i hin 5 (by omega)) hp hq) G0F (B := 200) ⟨by simp, by simp [keys], by simp [jb, ids_lit, idsF, ids0]⟩ (fun k => if k = 100 then 124 else if k = 108 then 132 else k) (fun k hk => (if_neg (by omega)).trans (if_neg (by omega))) (by simp [ren, renA, renF, ren0]) (by simp) (by simp [jb, Blk.rn, renF, ren0]) (by simp [keys]) (by simp [keys]; rfl) ?_)); try simp [hC, hY, hin, hi', hz, hs, hst, hq2, hle, hld, hx, jb, dwA, dwV, dwE])); (first | refine hQ _ _ _ _ ?_ | refine hQ _ _ _ _ (by kernel_rfl) ?_ | refine hP _ _ (fun _ => ?_) | refine hP _ _ (by kernel_rfl) (fun _ => ?_)); clear hQ hP Q) | refine GW_block ?_ | refine GW_ret ?_ | refine GW_skip ?_ | refine GW_exit ?_ | refine GW_goto ?_ | refine GW_label ?_ | simp only [blockG_exit] | (refine GW_cond (by simp; rfl) ?_ ?_ <;> (intro hb; first | (exfalso; exact absurd hb (by decide)) | skip)))
    refine weakL _ 300 hC G0F (m0 := wyL b st off n cap p q) hC0 (by omega) ?_ ?_ ?_
    · simp [idsV, idsA, idsF, ids0, dom, wyL, hs]
    · simp [wyL, stB', fnB, ids_lit, idsF, ids0, jb, hid, dom]
    · simp [wyL, stB', fnB, jb]
  · have hL := wyL_ok h.fx st off n cap p q
    have hlt : ∀ k, dom (hpL G0 (wyL b st off n cap p q)) k → k < 200 := fun k hk => Classical.byContradiction fun h1 => hk (hL.free G0F (by omega) k (by omega))
    by_cases h4 : n ≤ stop
    · rw [Nat.min_eq_right h4]
      have hlen := dwXs_len f p q n
      unfold wySt
      repeat' (first | refine GW_seq ?_ | simp only [List.length_cons, List.length_nil, Nat.reduceAdd, Nat.reduceMul, wN] | ((first | refine GW_region' [] (by kernel_rfl) ?_ | refine GW_draw' [] follows (by kernel_rfl) (by kernel_rfl) ?_); intro Q hQ hP; simp [hC, hY]; (first | refine hQ _ _ _ _ ?_ | refine hQ _ _ _ _ (by kernel_rfl) ?_ | refine hP _ _ (fun _ => ?_) | refine hP _ _ (by kernel_rfl) (fun _ => ?_)); clear hQ hP Q) | refine GW_block ?_ | refine GW_ret ?_ | refine GW_skip ?_ | refine GW_exit ?_ | refine GW_goto ?_ | refine GW_label ?_ | simp only [blockG_exit] | (refine GW_cond (by simp; rfl) ?_ ?_ <;> (intro hb; first | (exfalso; exact absurd hb (by decide)) | skip)))
      refine ⟨.inl trivial, by simp [Tryd.results80], by first | (rw [hlen]; omega) | omega, fun k hk => ?_⟩
      have hk := hlt k hk
      first | rfl | (simp (disch := omega) only [upd_other])
    · rw [Nat.min_eq_left (by omega)]
      have hin : stop < n := by omega
      have hi' : (stop : Int) < n := by omega
      have hz : (0 : Int) ≤ stop := by omega
      have hld := h.body hin
      have hx := dwXs_at f p q n stop hin
      have hlen := dwXs_len f p q n
      unfold wySt wyL stB' fnB
      repeat' (first | refine GW_seq ?_ | simp only [List.length_cons, List.length_nil, Nat.reduceAdd, Nat.reduceMul, wN] | ((first | refine GW_region' [79] (by kernel_rfl) ?_ | refine GW_draw' [79] follows (by kernel_rfl) (by kernel_rfl) ?_); intro Q hQ hP; simp [hC, hY, hin, hi', hz, hld, hx, jb, dwA, dwV, dwE]; (repeat ((first | (refine heapK_mv (dw1_fun _ _ _ p q (h.i hin 3 (by omega)) (h.i hin 4 (by omega)) (h.i hin 5 (by omega)) hp hq) G0F (B := 200) ⟨by simp, by simp [keys], by simp [jb, ids_lit, idsF, ids0]⟩ (fun k => if k = 100 then 124 else if k = 108 then 132 else k) (fun k hk => (if_neg (by omega)).trans (if_neg (by omega))) (by simp [ren, renA, renF, ren0]) (by simp) (by simp [jb, Blk.rn, renF, ren0]) (by simp [keys]) (by simp [keys]; rfl) ?_)); try simp [hC, hY, hin, hi', hz, hld, hx, jb, dwA, dwV, dwE])); (first | refine hQ _ _ _ _ ?_ | refine hQ _ _ _ _ (by kernel_rfl) ?_ | refine hP _ _ (fun _ => ?_) | refine hP _ _ (by kernel_rfl) (fun _ => ?_)); clear hQ hP Q) | refine GW_block ?_ | refine GW_ret ?_ | refine GW_skip ?_ | refine GW_exit ?_ | refine GW_goto ?_ | refine GW_label ?_ | simp only [blockG_exit] | (refine GW_cond (by simp; rfl) ?_ ?_ <;> (intro hb; first | (exfalso; exact absurd hb (by decide)) | skip)))
      refine ⟨.inr trivial, by simp [Tryd.results80], by first | omega | (simp; omega), fun k hk => ?_⟩
      have hk := hlt k hk
      simp (disch := omega) only [upd_other]
      rfl
end Go.Gy
namespace Go.Gy
set_option linter.unusedSimpArgs false
set_option linter.unusedVariables false
open Go Go.RowKit Go.Proofs
/-- The drifts, one behind the other. -/
def vecsG (f : Nat → Int) (p q : Int) (j : Nat) : Int := dwV f p q (j / 3) (j % 3)
/-- A new row of n points. -/
def VecR (nk n : Nat) (G : Nat → Int) (v : Value) (ns : List (Nat × Blk)) : Prop := (n = 0 ∧ v = .slice none 0 0 ∧ ns = []) ∨ ∃ (c : Nat) (g : Nat → Int), 0 < n ∧ n ≤ c ∧ (∀ j, j < 3 * n → g j = G j) ∧ v = .slice (some ⟨nk, 0, none⟩) n c ∧ ns = [(nk, ⟨fa (3 * c) .i64 g, .ty 26⟩)]
theorem vec_fit {D : Nat → Prop} {nk n B : Nat} {G : Nat → Int} (hB : B ≤ nk) (v : Value) (ns : List (Nat × Blk)) (h : VecR nk n G v ns) : idsV (extD D ns) v ∧ (∀ p ∈ ns, B ≤ p.1 ∧ p.2.ids (extD D ns)) ∧ (∀ k b c, (k, b) ∈ ns → (k, c) ∈ ns → b = c) := by
  rcases h with ⟨_, rfl, rfl⟩ | ⟨c, g, h1, h2, h3, rfl, rfl⟩
  · simp [idsV, idsA, idsF, ids0]
  · refine ⟨by simp [idsV, idsA, idsF, ids0, extD, keys], ?_, ?_⟩
    · simp only [List.mem_singleton, forall_eq]
      exact ⟨by omega, Blk.fx_ids (fa_fx _ _ _) _⟩
    · intro k b c h1 h2
      simp at h1 h2
      rw [h1.2, h2.2]
def sqI (G : Nat → Int) (i : Nat) (h : Hp) : Prop := ∃ sl ns, VecR 208 i G sl ns ∧ h = hpL G0 ((200, ⟨#[sl], .ty 35⟩) :: ns)
def sqTs : List (Nat × Value) := [(2, .pointer (some ⟨200, 0, none⟩)), (4, .slice none 0 0)]
set_option maxRecDepth 8000 in
theorem seq_fun (b : Blk) (off n cap : Nat) (f : Nat → Int) (h : SB b off n f) (st p q : Int) (hp : i64 p) (hq : i64 q) :
    FunS Tryd.prog G0 78 #[.slice none 0 0, .func (.func 80) #[] #[.pointer (some ⟨100, 0, none⟩), .pointer (some ⟨108, 0, none⟩)]] (hpL G0 (wyL b st off n cap p q)) (keys (wyL b st off n cap p q)) (VecR 1000 n (vecsG f p q)) := by
  have hL := wyL_ok h.fx st off n cap p q
  refine newS_ofL (B := 200) G0F Tryd.func78 rfl Tryd.call78 hL ?_ (vec_fit (by omega)) (by simp [Tryd.ntmps78]) (by omega) ?_
  · simp [idsV, idsA, idsF, ids0, keys, wyL]
  intro C hC hC0 hY
  have hnn := h.nn
  have hid := fun D => Blk.fx_ids h.fx D
  have hasd : ∀ C0 : Ctx, (C0.hp0 = fun k => if k ∈ keys (wyL b st off n cap p q) then none else C.hp0 k) → C0.hp0 = hpL G0 [] := fun C0 h0 => by rw [h0, hC0]; exact hL.aside G0F
  repeat' (first | refine GW_seq ?_ | simp only [List.length_cons, List.length_nil, Nat.reduceAdd, Nat.reduceMul, wN] | ((first | refine GW_region' [] (by kernel_rfl) ?_ | refine GW_draw' [] follows (by kernel_rfl) (by kernel_rfl) ?_); intro Q hQ hP; simp [hC, hY]; (first | refine hQ _ _ _ _ ?_ | refine hQ _ _ _ _ (by kernel_rfl) ?_ | refine hP _ _ (fun _ => ?_) | refine hP _ _ (by kernel_rfl) (fun _ => ?_)); clear hQ hP Q) | refine GW_block ?_ | refine GW_ret ?_ | refine GW_skip ?_ | refine GW_exit ?_ | refine GW_goto ?_ | refine GW_label ?_ | simp only [blockG_exit] | (refine GW_cond (by simp; rfl) ?_ ?_ <;> (intro hb; first | (exfalso; exact absurd hb (by decide)) | skip)))
  refine GW_rangeK (f := 80) (rs := keys (wyL b st off n cap p q)) (xs := dwXs f p q n) (caps := #[.pointer (some ⟨100, 0, none⟩), .pointer (some ⟨108, 0, none⟩)]) (keys (wyL b st off n cap p q)) hY (by simp) ?_ ?_ (by simp [Tryd.ntmps78]) (tsL sqTs) (tsL sqTs) (sqI (vecsG f p q)) (hpS := hpL G0 [(200, ⟨#[.slice none 0 0], .ty 35⟩)]) 300 n (by rw [dwXs_len]; exact Nat.le_refl _) (fun _ hk => hk) ?_ ?_ ?_ ?_ ?_ (fun _ => .inl rfl) ?_ ?_
  · rw [hC]
    exact iterk_mv (ways_it b off n cap f h st p q hp hq) G0F hL (fun k => k) (fun _ _ => rfl) (by simp [ren0]) (by simp) (fun k hk => by dsimp only; rw [upd_other _ _ (by omega)]; exact hL.low k hk) (by simp [wyL, Blk.rn_id]) (by simp)
  · intro x hx
    simp [dwXs] at hx
    obtain ⟨i, _, rfl⟩ := hx
    simp [dwA]
  · intro k hk
    simp [wyL, keys] at hk
    rcases hk with rfl | rfl | rfl | rfl | rfl <;> simp [dom, wyL]
  · exact hL.clz (by simp [wyL])
  · intro C0 h1 h2
    refine weakL _ 300 (h1.trans hC) G0F (m0 := []) (hasd C0 h2) (by omega) ?_ ?_ ?_
    · simp [sqTs, idsV, idsA, idsF, ids0, dom]
    · simp [ids_lit, idsF, ids0]
    · simp
  · exact ⟨_, _, .inl ⟨rfl, rfl, rfl⟩, rfl⟩
  · intro k hk
    simp [wyL, keys] at hk
    rcases hk with rfl | rfl | rfl | rfl | rfl <;> simp
  · intro i x hq0 hi hx hI C1 l hC1 hh1 hY1
    obtain ⟨sl, ns, hV, rfl⟩ := hI
    rw [dwXs_at _ _ _ _ _ hi] at hx
    simp only [Option.some.injEq] at hx
    subst hx
    have hCC := hC
    have hC1' : C1.G = G0 := hC1.trans hC
    rcases hV with ⟨rfl, rfl, rfl⟩ | ⟨c, g, hi0, hic, hg, rfl, rfl⟩
    · clear hC hY
      have hC := hC1'
      have hY := hY1
      unfold dwA
      repeat' (first | refine GW_seq ?_ | simp only [List.length_cons, List.length_nil, Nat.reduceAdd, Nat.reduceMul, wN] | ((first | refine GW_region' [] (by kernel_rfl) ?_ | refine GW_draw' [] follows (by kernel_rfl) (by kernel_rfl) ?_); intro Q hQ hP; simp [hC, hY, roundTs, sqTs]; (first | refine hQ _ _ _ _ ?_ | refine hQ _ _ _ _ (by kernel_rfl) ?_ | refine hP _ _ (fun _ => ?_) | refine hP _ _ (by kernel_rfl) (fun _ => ?_)); clear hQ hP Q) | refine GW_block ?_ | refine GW_ret ?_ | refine GW_skip ?_ | refine GW_exit ?_ | refine GW_goto ?_ | refine GW_label ?_ | simp only [blockG_exit] | (refine GW_cond (by simp; rfl) ?_ ?_ <;> (intro hb; first | (exfalso; exact absurd hb (by decide)) | skip)))
      intro C2 hC2 hh2 hY2
      clear hC hY
      have hC : C2.G = G0 := hC2.trans hCC
      have hY := hY2
      refine GW_block ?_
      refine GW_list ?_
      simp only [Array.toList]
      refine GL_walk 3 [] rfl (by simp) (by kernel_rfl) ?_; intro q hq; simp [hC, hY]; refine hq _ _ _ _ ?_; clear hq q
      simp only [wT, List.length_cons, List.length_nil, Nat.reduceAdd]
      refine GL_push (m := 3) (i := 0) (j := 332) (by' := 24) (z := .agg #[.int .i64 0, .int .i64 0, .int .i64 0]) (T2 := .ty 26) (G := vecsG f p q) (ev := fun u => dwV f p q 0 u) rfl (by simp) rfl Tryd.underlying35 (tySize_of Tryd.sizeOf26) (by kernel_rfl) (by kernel_rfl) (by omega) (by simp [Value.cells]) (by simp [Value.cells]) (by omega) (by omega) (.inl ⟨rfl, by simp⟩) (by simp) (by simp [fa_3]) (fun u hu => ?_) (by omega) ?_
      · unfold vecsG
        rw [show (3 * 0 + u) / 3 = 0 by omega, show (3 * 0 + u) % 3 = u by omega]
      · rintro k' c' g' hk' hk100 hc' hg'
        obtain rfl : k' = 340 := by
          rcases hk' with hk' | ⟨c, hk'⟩
          · exact hk'
          · simp at hk'
        refine GL_walk 1 [] rfl (by simp) (by kernel_rfl) ?_; intro q hq; simp [hC, hY, putT]; refine hq _ _ _ _ ?_; clear hq q
        simp only [wT, List.length_cons, List.length_nil, Nat.reduceAdd]
        refine GL_nil ?_
        simp only [blockG_normal, thenG_normal]
        refine ⟨fun k => if k = 208 then 340 else k, _, fun C0 h1 h2 => weakRL _ _ 300 (h1.trans hCC) G0F (m0 := []) (hasd C0 h2) (by omega) ?_ ?_ ?_ ?_ ?_, ⟨_, _, .inr ⟨c', g', by omega, hc', hg', rfl, rfl⟩, rfl⟩⟩
        · simp [sqTs, dom, junk, ren, renA, renF, ren0, idsV, idsA, idsF, ids0]
        · have hfi := fun D => Blk.fx_ids (fa_fx (3 * c') g' 26) D
          have hfm := fun ρ => fx_map (fa_fx (3 * c') g' 26) ρ
          simp [hfm, Blk.rn, renF, ren0, ids_lit, idsF, ids0, dom, hfi]
        · simp
        · intro k hk; simp; omega
        · simp
    · clear hC hY
      have hC := hC1'
      have hY := hY1
      have hfi := fun D => Blk.fx_ids (fa_fx (3 * c) g 26) D
      unfold dwA
      repeat' (first | refine GW_seq ?_ | simp only [List.length_cons, List.length_nil, Nat.reduceAdd, Nat.reduceMul, wN] | ((first | refine GW_region' [] (by kernel_rfl) ?_ | refine GW_draw' [] follows (by kernel_rfl) (by kernel_rfl) ?_); intro Q hQ hP; simp [hC, hY, roundTs, sqTs]; (first | refine hQ _ _ _ _ ?_ | refine hQ _ _ _ _ (by kernel_rfl) ?_ | refine hP _ _ (fun _ => ?_) | refine hP _ _ (by kernel_rfl) (fun _ => ?_)); clear hQ hP Q) | refine GW_block ?_ | refine GW_ret ?_ | refine GW_skip ?_ | refine GW_exit ?_ | refine GW_goto ?_ | refine GW_label ?_ | simp only [blockG_exit] | (refine GW_cond (by simp; rfl) ?_ ?_ <;> (intro hb; first | (exfalso; exact absurd hb (by decide)) | skip)))
      intro C2 hC2 hh2 hY2
      clear hC hY
      have hC : C2.G = G0 := hC2.trans hCC
      have hY := hY2
      refine GW_block ?_
      refine GW_list ?_
      simp only [Array.toList]
      refine GL_walk 3 [] rfl (by simp) (by kernel_rfl) ?_; intro q hq; simp [hC, hY]; refine hq _ _ _ _ ?_; clear hq q
      simp only [wT, List.length_cons, List.length_nil, Nat.reduceAdd]
      refine GL_push (m := 3) (i := i) (j := 332) (by' := 24) (z := .agg #[.int .i64 0, .int .i64 0, .int .i64 0]) (T2 := .ty 26) (G := vecsG f p q) (ev := fun u => dwV f p q i u) rfl (by simp) rfl Tryd.underlying35 (tySize_of Tryd.sizeOf26) (by kernel_rfl) (by kernel_rfl) (by omega) (by simp [Value.cells]) (by simp [Value.cells]) (by omega) (by omega) (.inr ⟨208, c, g, by omega, by simp, by simp, hic, hg⟩) (by simp) (by simp [fa_3]) (fun u hu => ?_) (by omega) ?_
      · unfold vecsG
        rw [show (3 * i + u) / 3 = i by omega, show (3 * i + u) % 3 = u by omega]
      · rintro k' c' g' hk' hk100 hc' hg'
        have hk' : k' = 340 ∨ k' = 208 := by
          rcases hk' with hk' | ⟨c, hk'⟩
          · exact .inl hk'
          · simp at hk'; exact .inr hk'.1.symm
        rcases hk' with rfl | rfl
        ·
          refine GL_walk 1 [] rfl (by simp) (by kernel_rfl) ?_; intro q hq; simp [hC, hY, putT]; refine hq _ _ _ _ ?_; clear hq q
          simp only [wT, List.length_cons, List.length_nil, Nat.reduceAdd]
          refine GL_nil ?_
          simp only [blockG_normal, thenG_normal]
          refine ⟨fun k => if k = 208 then 340 else k, _, fun C0 h1 h2 => weakRL _ _ 300 (h1.trans hCC) G0F (m0 := []) (hasd C0 h2) (by omega) ?_ ?_ ?_ ?_ ?_, ⟨_, _, .inr ⟨c', g', by omega, hc', hg', rfl, rfl⟩, rfl⟩⟩
          · simp [sqTs, dom, junk, ren, renA, renF, ren0, idsV, idsA, idsF, ids0]
          · have hfi := fun D => Blk.fx_ids (fa_fx (3 * c') g' 26) D
            have hfm := fun ρ => fx_map (fa_fx (3 * c') g' 26) ρ
            simp [hfm, Blk.rn, renF, ren0, ids_lit, idsF, ids0, dom, hfi]
          · simp
          · intro k hk; simp; omega
          · simp
        ·
          refine GL_walk 1 [] rfl (by simp) (by kernel_rfl) ?_; intro q hq; simp [hC, hY, putT]; refine hq _ _ _ _ ?_; clear hq q
          simp only [wT, List.length_cons, List.length_nil, Nat.reduceAdd]
          refine GL_nil ?_
          simp only [blockG_normal, thenG_normal]
          refine ⟨fun k => if k = 208 then 208 else k, _, fun C0 h1 h2 => weakRL _ _ 300 (h1.trans hCC) G0F (m0 := []) (hasd C0 h2) (by omega) ?_ ?_ ?_ ?_ ?_, ⟨_, _, .inr ⟨c', g', by omega, hc', hg', rfl, rfl⟩, rfl⟩⟩
          · simp [sqTs, dom, junk, ren, renA, renF, ren0, idsV, idsA, idsF, ids0]
          · have hfi := fun D => Blk.fx_ids (fa_fx (3 * c') g' 26) D
            have hfm := fun ρ => fx_map (fa_fx (3 * c') g' 26) ρ
            simp [hfm, Blk.rn, renF, ren0, ids_lit, idsF, ids0, dom, hfi]
          · simp
          · intro k hk; simp; omega
          · simp
  · left
    refine ⟨(dwXs_len _ _ _ _).symm, ?_⟩
    rintro hq0 ⟨sl, ns, hV, rfl⟩
    refine ⟨?_, ?_⟩
    · intro k hk
      simp [wyL, keys] at hk
      rcases hV with ⟨rfl, rfl, rfl⟩ | ⟨c, g, hi0, hic, hg, rfl, rfl⟩
      · rcases hk with rfl | rfl | rfl | rfl | rfl <;> simp
      · rcases hk with rfl | rfl | rfl | rfl | rfl <;> simp
    have hkeep : ∀ (h2 : Hp), (∀ k, k ∉ keys (wyL b st off n cap p q) → k < 100 → h2 k = hpL G0 (wyL b st off n cap p q) k) → ∀ k, dom (hpL G0 (wyL b st off n cap p q)) k → addB (keys (wyL b st off n cap p q)) (upd (hpL G0 (wyL b st off n cap p q)) 200 (some ⟨#[.slice none 0 0], .ty 35⟩)) h2 k = hpL G0 (wyL b st off n cap p q) k := fun h2 hh k hk => by
      unfold addB
      by_cases h1 : k ∈ keys (wyL b st off n cap p q)
      · rw [if_pos h1, upd_other _ _ ?_]
        obtain ⟨pp, hpp, rfl⟩ := mem_keys.1 h1
        have := (hL.big pp hpp).2
        omega
      · rw [if_neg h1]
        refine hh k h1 (Classical.byContradiction fun h3 => h1 ?_)
        unfold dom at hk
        cases hb : hpL G0 (wyL b st off n cap p q) k with
        | none => exact absurd hb hk
        | some b' =>
          rcases hpL_mem hb with h4 | h4
          · exact mem_keys.2 ⟨_, h4, rfl⟩
          · exact absurd (G0F k b' h4).1 h3
    rcases hV with ⟨rfl, rfl, rfl⟩ | ⟨c, g, hi0, hic, hg, rfl, rfl⟩
    · have h200 : ¬ 200 ∈ keys (wyL b st off 0 cap p q) := by simp [wyL, keys]
      unfold sqTs
      repeat' (first | refine GW_seq ?_ | simp only [List.length_cons, List.length_nil, Nat.reduceAdd, Nat.reduceMul, wN] | ((first | refine GW_region' [] (by kernel_rfl) ?_ | refine GW_draw' [] follows (by kernel_rfl) (by kernel_rfl) ?_); intro Q hQ hP; simp [hC, hY, addB, h200]; (first | refine hQ _ _ _ _ ?_ | refine hQ _ _ _ _ (by kernel_rfl) ?_ | refine hP _ _ (fun _ => ?_) | refine hP _ _ (by kernel_rfl) (fun _ => ?_)); clear hQ hP Q) | refine GW_block ?_ | refine GW_ret ?_ | refine GW_skip ?_ | refine GW_exit ?_ | refine GW_goto ?_ | refine GW_label ?_ | simp only [blockG_exit] | (refine GW_cond (by simp; rfl) ?_ ?_ <;> (intro hb; first | (exfalso; exact absurd hb (by decide)) | skip)))
      refine ⟨.inr trivial, hkeep _ (fun k h1 h2 => ?_), _, _, fun k => k, .inl ⟨rfl, rfl, rfl⟩, fun _ _ => rfl, by simp, by simp, by simp [Tryd.results78, ren, renA, renF, ren0], by simp⟩
      rw [hL.low k h2]
      simp (disch := omega) only [hpL_cons, hpL_nil, if_neg]
    · have h200 : ¬ 200 ∈ keys (wyL b st off n cap p q) := by simp [wyL, keys]
      have h208 : ¬ 208 ∈ keys (wyL b st off n cap p q) := by simp [wyL, keys]
      unfold sqTs
      repeat' (first | refine GW_seq ?_ | simp only [List.length_cons, List.length_nil, Nat.reduceAdd, Nat.reduceMul, wN] | ((first | refine GW_region' [] (by kernel_rfl) ?_ | refine GW_draw' [] follows (by kernel_rfl) (by kernel_rfl) ?_); intro Q hQ hP; simp [hC, hY, addB, h200]; (first | refine hQ _ _ _ _ ?_ | refine hQ _ _ _ _ (by kernel_rfl) ?_ | refine hP _ _ (fun _ => ?_) | refine hP _ _ (by kernel_rfl) (fun _ => ?_)); clear hQ hP Q) | refine GW_block ?_ | refine GW_ret ?_ | refine GW_skip ?_ | refine GW_exit ?_ | refine GW_goto ?_ | refine GW_label ?_ | simp only [blockG_exit] | (refine GW_cond (by simp; rfl) ?_ ?_ <;> (intro hb; first | (exfalso; exact absurd hb (by decide)) | skip)))
      refine ⟨.inr trivial, hkeep _ (fun k h1 h2 => ?_), _, _, fun k => if k = 1000 then 208 else k, .inr ⟨c, g, hi0, hic, hg, rfl, rfl⟩, fun k hk => if_neg (by omega), by simp, by simp, by simp [Tryd.results78, ren, renA, renF, ren0], ?_⟩
      · rw [hL.low k h2]
        simp (disch := omega) only [hpL_cons, hpL_nil, if_neg]
      · simp [addB, h208, fa_rn]
end Go.Gy
namespace Go.Gy
set_option linter.unusedSimpArgs false
set_option linter.unusedVariables false
open Go Go.RowKit Go.Proofs
theorem vecR_rr {nk nk' n : Nat} {G : Nat → Int} {ρ : Nat → Nat} (h : ρ nk = nk') : RR ρ (VecR nk n G) = VecR nk' n G := by
  funext v ns
  apply propext
  constructor
  · rintro ⟨v0, ns0, hV, rfl, rfl⟩
    rcases hV with ⟨h1, rfl, rfl⟩ | ⟨c, g, h1, h2, h3, rfl, rfl⟩
    · exact .inl ⟨h1, by simp [ren, renA, renF, ren0], by simp [rnL]⟩
    · exact .inr ⟨c, g, h1, h2, h3, by simp [ren, renA, renF, ren0, h], by simp [rnL, fa_rn, h]⟩
  · rintro (⟨h1, rfl, rfl⟩ | ⟨c, g, h1, h2, h3, rfl, rfl⟩)
    · exact ⟨_, _, .inl ⟨h1, rfl, rfl⟩, by simp [ren, renA, renF, ren0], by simp [rnL]⟩
    · exact ⟨_, _, .inr ⟨c, g, h1, h2, h3, rfl, rfl⟩, by simp [ren, renA, renF, ren0, h], by simp [rnL, fa_rn, h]⟩
theorem vecR_key {nk n : Nat} {G : Nat → Int} {v : Value} {ns : List (Nat × Blk)} (h : VecR nk n G v ns) : ∀ k ∈ keys ns, k = nk := by
  rcases h with ⟨h1, rfl, rfl⟩ | ⟨c, g, h1, h2, h3, rfl, rfl⟩ <;> simp [keys]
theorem stB'_rn {st : Int} {k off n cap : Nat} {ρ : Nat → Nat} : (stB' st k off n cap).rn ρ = stB' st (ρ k) off n cap := by simp [stB', Blk.rn, renF, ren0]
theorem fnB_rn {k l : Nat} {ρ : Nat → Nat} : (fnB k l).rn ρ = fnB (ρ k) (ρ l) := by simp [fnB, Blk.rn, renF, ren0]
theorem seq_at (nk : Nat) (hnk : 200 ≤ nk) (b : Blk) (off n cap : Nat) (f : Nat → Int) (h : SB b off n f) (st p q : Int) (hp : i64 p) (hq : i64 q) :
    FunS Tryd.prog G0 78 #[.slice none 0 0, .func (.func 80) #[] #[.pointer (some ⟨100, 0, none⟩), .pointer (some ⟨108, 0, none⟩)]] (hpL G0 (wyL b st off n cap p q)) (keys (wyL b st off n cap p q)) (VecR nk n (vecsG f p q)) := by
  have hL := wyL_ok h.fx st off n cap p q
  have hr := fun ρ => Blk.fx_rn h.fx ρ
  refine (seq_fun b off n cap f h st p q hp hq).mvL G0F hL (fun k => if k = 1000 then nk else k) (fun k hk => if_neg (by omega)) (by simp [ren, renA, renF, ren0]) (by simp [wyL, keys]) (vecR_rr rfl) hL.low (by simp [wyL, stB'_rn, fnB_rn, jb_rn, hr]) (by simp [wyL, keys]) (fun v ns hV k hk => ?_) (fun v ns hV k hk l hl _ => by rw [vecR_key hV k hk, vecR_key hV l hl])
  rw [vecR_key hV k hk]
  simp [wyL, keys]
  omega
theorem col_fun (b : Blk) (off n cap : Nat) (f : Nat → Int) (h : SB b off n f) (st p q : Int) (hp : i64 p) (hq : i64 q) :
    FunS Tryd.prog G0 45 #[.func (.func 80) #[] #[.pointer (some ⟨100, 0, none⟩), .pointer (some ⟨108, 0, none⟩)]] (hpL G0 (wyL b st off n cap p q)) (keys (wyL b st off n cap p q)) (VecR 1000 n (vecsG f p q)) := by
  have hL := wyL_ok h.fx st off n cap p q
  refine newS_ofL (B := 200) G0F Tryd.func45 rfl Tryd.call45 hL ?_ (vec_fit (by omega)) (by simp [Tryd.ntmps45]) (by omega) ?_
  · simp [idsV, idsA, idsF, ids0, keys, wyL]
  intro C hC hC0 hY
  repeat' (first | refine GW_seq ?_ | simp only [List.length_cons, List.length_nil, Nat.reduceAdd, Nat.reduceMul, wN] | ((first | refine GW_region' [] (by kernel_rfl) ?_ | refine GW_draw' [] follows (by kernel_rfl) (by kernel_rfl) ?_); intro Q hQ hP; simp [hC, hY]; (first | refine hQ _ _ _ _ ?_ | refine hQ _ _ _ _ (by kernel_rfl) ?_ | refine hP _ _ (fun _ => ?_) | refine hP _ _ (by kernel_rfl) (fun _ => ?_)); clear hQ hP Q) | refine GW_block ?_ | refine GW_ret ?_ | refine GW_skip ?_ | refine GW_exit ?_ | refine GW_goto ?_ | refine GW_label ?_ | simp only [blockG_exit] | (refine GW_cond (by simp; rfl) ?_ ?_ <;> (intro hb; first | (exfalso; exact absurd hb (by decide)) | skip)))
  refine GW_list ?_
  simp only [Array.toList]
  refine GL_walk 1 [] rfl (by simp) (by kernel_rfl) ?_; intro q hq; simp [hC, hY]; refine hq _ _ _ _ ?_; clear hq q
  simp only [wT, List.length_cons, List.length_nil, Nat.reduceAdd]
  have hS := seq_at 216 (by omega) b off n cap f h st p q hp hq
  refine GL_callL (f := .func 78) (cap := #[]) hC hS rfl (by simp) rfl rfl (by simp [okT]) (by simp [gev]) (by simp) (by simp [okX, junk]) (by simp [gev]) (by simp) (by intro k hk; rfl) ?_ ?_
  · intro v ns hV k hk
    rw [vecR_key hV k hk]
    omega
  · intro v ns hV
    rcases hV with ⟨rfl, rfl, rfl⟩ | ⟨c, g, hi0, hic, hg, rfl, rfl⟩
    ·
      refine GL_walk 1 [] rfl (by simp) (by kernel_rfl) ?_; intro q hq; simp [hC, hY, putT, updL]; refine hq _ _ _ _ ?_; clear hq q
      simp only [wT, List.length_cons, List.length_nil, Nat.reduceAdd]
      refine GL_nil ?_
      repeat' (first | refine GW_seq ?_ | simp only [List.length_cons, List.length_nil, Nat.reduceAdd, Nat.reduceMul, wN] | ((first | refine GW_region' [] (by kernel_rfl) ?_ | refine GW_draw' [] follows (by kernel_rfl) (by kernel_rfl) ?_); intro Q hQ hP; simp [hC, hY]; (first | refine hQ _ _ _ _ ?_ | refine hQ _ _ _ _ (by kernel_rfl) ?_ | refine hP _ _ (fun _ => ?_) | refine hP _ _ (by kernel_rfl) (fun _ => ?_)); clear hQ hP Q) | refine GW_block ?_ | refine GW_ret ?_ | refine GW_skip ?_ | refine GW_exit ?_ | refine GW_goto ?_ | refine GW_label ?_ | simp only [blockG_exit] | (refine GW_cond (by simp; rfl) ?_ ?_ <;> (intro hb; first | (exfalso; exact absurd hb (by decide)) | skip)))
      refine ⟨.inr trivial, by simp, _, _, fun k => k, .inl ⟨rfl, rfl, rfl⟩, fun _ _ => rfl, by simp, by simp, by simp [Tryd.results45, ren, renA, renF, ren0], by simp⟩
    ·
      refine GL_walk 1 [] rfl (by simp) (by kernel_rfl) ?_; intro q hq; simp [hC, hY, putT, updL]; refine hq _ _ _ _ ?_; clear hq q
      simp only [wT, List.length_cons, List.length_nil, Nat.reduceAdd]
      refine GL_nil ?_
      repeat' (first | refine GW_seq ?_ | simp only [List.length_cons, List.length_nil, Nat.reduceAdd, Nat.reduceMul, wN] | ((first | refine GW_region' [] (by kernel_rfl) ?_ | refine GW_draw' [] follows (by kernel_rfl) (by kernel_rfl) ?_); intro Q hQ hP; simp [hC, hY]; (first | refine hQ _ _ _ _ ?_ | refine hQ _ _ _ _ (by kernel_rfl) ?_ | refine hP _ _ (fun _ => ?_) | refine hP _ _ (by kernel_rfl) (fun _ => ?_)); clear hQ hP Q) | refine GW_block ?_ | refine GW_ret ?_ | refine GW_skip ?_ | refine GW_exit ?_ | refine GW_goto ?_ | refine GW_label ?_ | simp only [blockG_exit] | (refine GW_cond (by simp; rfl) ?_ ?_ <;> (intro hb; first | (exfalso; exact absurd hb (by decide)) | skip)))
      refine ⟨.inr trivial, keep_of G0F (fun pp hpp => ?_) (fun k hk => by rw [upd_other _ _ (by omega)]), _, _, fun k => if k = 1000 then 216 else k, .inr ⟨c, g, hi0, hic, hg, rfl, rfl⟩, fun k hk => if_neg (by omega), by simp, by simp, by simp [Tryd.results45, ren, renA, renF, ren0], by simp [fa_rn]⟩
      have := (hL.big pp hpp).2
      rw [upd_other _ _ (by omega)]
end Go.Gy
namespace Go.Gy
set_option linter.unusedSimpArgs false
set_option linter.unusedVariables false
open Go Go.RowKit Go.Proofs
theorem wayR_rr {nk nk' off n cap : Nat} {st p q : Int} {ρ : Nat → Nat} (h100 : ρ 100 = 100) (h0 : ρ nk = nk') (h1 : ρ (nk + 1) = nk' + 1) (h2 : ρ (nk + 2) = nk' + 2) (h3 : ρ (nk + 3) = nk' + 3) : RR ρ (WayR nk st off n cap p q) = WayR nk' st off n cap p q := by
  funext v ns
  apply propext
  constructor
  · rintro ⟨v0, ns0, ⟨rfl, rfl⟩, rfl, rfl⟩
    exact ⟨by simp [ren, renA, renF, ren0, h0, h3], by simp [rnL, wayNs, stB'_rn, fnB_rn, jb_rn, h100, h0, h1, h2, h3]⟩
  · rintro ⟨rfl, rfl⟩
    exact ⟨_, _, ⟨rfl, rfl⟩, by simp [ren, renA, renF, ren0, h0, h3], by simp [rnL, wayNs, stB'_rn, fnB_rn, jb_rn, h100, h0, h1, h2, h3]⟩
/-- Where a new name stands for a block of a list from 1000 on. -/
def up4 (nk k : Nat) : Nat := if 1000 ≤ k then (if k < 1004 then k - 1000 + nk else k) else k
theorem ways_at (nk : Nat) (hnk : 200 ≤ nk) (b : Blk) (off n cap : Nat) (hb : b.fx) (st p q : Int) :
    FunS Tryd.prog G0 46 #[.agg #[.int .i64 st, .slice (some ⟨100, off, none⟩) n cap], .int .i64 p, .int .i64 q] (hpL G0 [(100, b)]) [100] (WayR nk st off n cap p q) := by
  have e4 : ∀ j, j < 4 → up4 nk (1000 + j) = nk + j := fun j hj => by unfold up4; rw [if_pos (by omega), if_pos (by omega)]; omega
  have e100 : up4 nk 100 = 100 := by simp [up4]
  have hr := fun ρ => Blk.fx_rn hb ρ
  have hk4 : ∀ v ns, WayR 1000 st off n cap p q v ns → ∀ k ∈ keys ns, ∃ j, j < 4 ∧ k = 1000 + j := by
    rintro v ns ⟨rfl, rfl⟩ k hk
    simp [keys, wayNs] at hk
    rcases hk with rfl | rfl | rfl | rfl
    · exact ⟨0, by omega, rfl⟩
    · exact ⟨1, by omega, rfl⟩
    · exact ⟨2, by omega, rfl⟩
    · exact ⟨3, by omega, rfl⟩
  refine (ways_fun b off n cap hb st p q).mvL G0F (oneL_ok hb) (up4 nk) (fun k hk => by unfold up4; rw [if_neg (by omega)]) (by simp [ren, renA, renF, ren0, e100]) (by simp [keys, e100]) (wayR_rr e100 (e4 0 (by omega)) (e4 1 (by omega)) (e4 2 (by omega)) (e4 3 (by omega))) (oneL_ok hb).low (by simp [e100, hr]) (by simp [keys]) (fun v ns hV k hk => ?_) (fun v ns hV k hk l hl e => ?_)
  · obtain ⟨j, hj, rfl⟩ := hk4 v ns hV k hk
    rw [e4 j hj]
    simp
    omega
  · obtain ⟨j, hj, rfl⟩ := hk4 v ns hV k hk
    obtain ⟨i, hi, rfl⟩ := hk4 v ns hV l hl
    rw [e4 j hj, e4 i hi] at e
    omega
theorem wayR_key {nk off n cap : Nat} {st p q : Int} {v : Value} {ns : List (Nat × Blk)} (h : WayR nk st off n cap p q v ns) : ∀ k ∈ keys ns, nk ≤ k ∧ k < nk + 4 := by
  obtain ⟨rfl, rfl⟩ := h
  intro k hk
  simp [keys, wayNs] at hk
  omega
/-- The names of the drifts' blocks at a caller's: nk.. stand there; 100 holds the bodies. -/
def dnk (nk nv k : Nat) : Nat := if k = 100 then nk else if k = 108 then nk + 3 else if k = 116 then 100 else if k = 124 then nk + 1 else if k = 132 then nk + 2 else if k = 1000 then nv else k
theorem dnk_low {nk nv : Nat} (k : Nat) (hk : k < 100) : dnk nk nv k = k := by
  unfold dnk
  rw [if_neg (by omega), if_neg (by omega), if_neg (by omega), if_neg (by omega), if_neg (by omega), if_neg (by omega)]
theorem col_at (nk nv : Nat) (hnk : 200 ≤ nk) (hnv : nk + 4 ≤ nv) (b : Blk) (off n cap : Nat) (f : Nat → Int) (h : SB b off n f) (st p q : Int) (hp : i64 p) (hq : i64 q) :
    FunS Tryd.prog G0 45 #[.func (.func 80) #[] #[.pointer (some ⟨nk, 0, none⟩), .pointer (some ⟨nk + 3, 0, none⟩)]] (hpL G0 ((100, b) :: wayNs nk st off n cap p q)) [nk, nk + 3, 100, nk + 1, nk + 2] (VecR nv n (vecsG f p q)) := by
  have hr := fun ρ => Blk.fx_rn h.fx ρ
  have d0 : dnk nk nv 100 = nk := by simp [dnk]
  have d1 : dnk nk nv 108 = nk + 3 := by simp [dnk]
  have d2 : dnk nk nv 116 = 100 := by simp [dnk]
  have d3 : dnk nk nv 124 = nk + 1 := by simp [dnk]
  have d4 : dnk nk nv 132 = nk + 2 := by simp [dnk]
  have d5 : dnk nk nv 1000 = nv := by simp [dnk]
  have n0 : ¬ nk = 100 := by omega
  refine (col_fun b off n cap f h st p q hp hq).mvL G0F (wyL_ok h.fx st off n cap p q) (dnk nk nv) dnk_low (by simp [ren, renA, renF, ren0, d0, d1]) (by simp [wyL, keys, d0, d1, d2, d3, d4]) (vecR_rr d5) ?_ ?_ ?_ (fun v ns hV k hk => ?_) (fun v ns hV k hk l hl _ => by rw [vecR_key hV k hk, vecR_key hV l hl])
  · intro k hk
    simp (disch := omega) only [wayNs, hpL_cons, hpL_nil, if_neg]
  · simp [wyL, wayNs, d0, d1, d2, d3, d4, stB'_rn, fnB_rn, jb_rn, hr, n0]
    omega
  · simp [wyL, keys, d0, d1, d2, d3, d4]
    omega
  · rw [vecR_key hV k hk, d5]
    simp
    omega
/-- What Ways hands back. -/
def WaysR (nk n : Nat) (G : Nat → Int) (ok : Bool) (v : Value) (ns : List (Nat × Blk)) : Prop := ∃ v0, VecR nk (if ok = true then n else 0) G v0 ns ∧ v = .tuple #[v0, .int .i64 (if ok = true then 0 else 2)]
theorem waysR_fit {D : Nat → Prop} {nk n B : Nat} {G : Nat → Int} {ok : Bool} (hB : B ≤ nk) (v : Value) (ns : List (Nat × Blk)) (h : WaysR nk n G ok v ns) : idsV (extD D ns) v ∧ (∀ p ∈ ns, B ≤ p.1 ∧ p.2.ids (extD D ns)) ∧ (∀ k b c, (k, b) ∈ ns → (k, c) ∈ ns → b = c) := by
  obtain ⟨v0, hV, rfl⟩ := h
  obtain ⟨f1, f2, f3⟩ := vec_fit (D := D) hB v0 ns hV
  refine ⟨?_, f2, f3⟩
  rcases hV with ⟨h1, rfl, rfl⟩ | ⟨c, g, h1, h2, h3, rfl, rfl⟩
  · simp [idsV, idsA, idsF, ids0]
  · simp [idsV, idsA, idsF, ids0, extD, keys]
theorem dWays_fun (b : Blk) (off n cap : Nat) (f : Nat → Int) (h : SB b off n f) (st p q : Int) (hs : i64 st) (hp : i64 p) (hq : i64 q) :
    FunS Tryd.prog G0 19 #[.agg #[.int .i64 st, .slice (some ⟨100, off, none⟩) n cap], .int .i64 p, .int .i64 q] (hpL G0 [(100, b)]) (keys [(100, b)]) (WaysR 1000 n (vecsG f p q) (rightB st f n && partB p q)) := by
  refine newS_ofL (B := 200) G0F Tryd.func19 rfl Tryd.call19 (oneL_ok h.fx) ?_ (waysR_fit (by omega)) (by simp [Tryd.ntmps19]) (by omega) ?_
  · simp [idsV, idsA, idsF, ids0, keys]
  intro C hC hC0 hY
  have hr := fun ρ => Blk.fx_rn h.fx ρ
  cases c0 : rightB st f n with
  | false =>
    repeat' (first | refine GW_seq ?_ | simp only [List.length_cons, List.length_nil, Nat.reduceAdd, Nat.reduceMul, wN] | ((first | refine GW_region' [44] (by kernel_rfl) ?_ | refine GW_draw' [44] follows (by kernel_rfl) (by kernel_rfl) ?_); intro Q hQ hP; simp [hC, hY, hp, c0]; (repeat ((first | (refine heapK_mv (rig_fun b off n cap f h st hs) G0F (B := 200) (oneL_ok h.fx) (fun k => k) (fun k hk => rfl) (by simp [ren, renA, renF, ren0]) (by simp) (by simp [hr]) (by simp [keys]) (by simp [keys]; rfl) ?_)); try simp [hC, hY, hp, c0])); (first | refine hQ _ _ _ _ ?_ | refine hQ _ _ _ _ (by kernel_rfl) ?_ | refine hP _ _ (fun _ => ?_) | refine hP _ _ (by kernel_rfl) (fun _ => ?_)); clear hQ hP Q) | refine GW_block ?_ | refine GW_ret ?_ | refine GW_skip ?_ | refine GW_exit ?_ | refine GW_goto ?_ | refine GW_label ?_ | simp only [blockG_exit] | (refine GW_cond (by simp; rfl) ?_ ?_ <;> (intro hb; first | (exfalso; exact absurd hb (by decide)) | skip)))
    refine ⟨.inr trivial, keep_of G0F (by simp) (by (intro k hk; first | rfl | (simp (disch := omega) only [addB, List.mem_cons, List.not_mem_nil, or_false, upd_other, hpL_cons, hpL_nil, if_neg, updL] <;> done))), _, _, fun k => k, ⟨_, .inl ⟨by simp, rfl, rfl⟩, rfl⟩, fun _ _ => rfl, by simp, by simp, by simp [Tryd.results19, ren, renA, renF, ren0], by simp⟩
  | true =>
    cases c1 : partB p q with
    | false =>
      repeat' (first | refine GW_seq ?_ | simp only [List.length_cons, List.length_nil, Nat.reduceAdd, Nat.reduceMul, wN] | ((first | refine GW_region' [44] (by kernel_rfl) ?_ | refine GW_draw' [44] follows (by kernel_rfl) (by kernel_rfl) ?_); intro Q hQ hP; simp [hC, hY, hp, c0, c1]; (repeat ((first | (refine heapK_mv (rig_fun b off n cap f h st hs) G0F (B := 200) (oneL_ok h.fx) (fun k => k) (fun k hk => rfl) (by simp [ren, renA, renF, ren0]) (by simp) (by simp [hr]) (by simp [keys]) (by simp [keys]; rfl) ?_)); try simp [hC, hY, hp, c0, c1])); (first | refine hQ _ _ _ _ ?_ | refine hQ _ _ _ _ (by kernel_rfl) ?_ | refine hP _ _ (fun _ => ?_) | refine hP _ _ (by kernel_rfl) (fun _ => ?_)); clear hQ hP Q) | refine GW_block ?_ | refine GW_ret ?_ | refine GW_skip ?_ | refine GW_exit ?_ | refine GW_goto ?_ | refine GW_label ?_ | simp only [blockG_exit] | (refine GW_cond (by simp; rfl) ?_ ?_ <;> (intro hb; first | (exfalso; exact absurd hb (by decide)) | skip)))
      refine ⟨.inr trivial, keep_of G0F (by simp) (by (intro k hk; first | rfl | (simp (disch := omega) only [addB, List.mem_cons, List.not_mem_nil, or_false, upd_other, hpL_cons, hpL_nil, if_neg, updL] <;> done))), _, _, fun k => k, ⟨_, .inl ⟨by simp, rfl, rfl⟩, rfl⟩, fun _ _ => rfl, by simp, by simp, by simp [Tryd.results19, ren, renA, renF, ren0], by simp⟩
    | true =>
      repeat' (first | refine GW_seq ?_ | simp only [List.length_cons, List.length_nil, Nat.reduceAdd, Nat.reduceMul, wN] | ((first | refine GW_region' [44] (by kernel_rfl) ?_ | refine GW_draw' [44] follows (by kernel_rfl) (by kernel_rfl) ?_); intro Q hQ hP; simp [hC, hY, hp, c0, c1]; (repeat ((first | (refine heapK_mv (rig_fun b off n cap f h st hs) G0F (B := 200) (oneL_ok h.fx) (fun k => k) (fun k hk => rfl) (by simp [ren, renA, renF, ren0]) (by simp) (by simp [hr]) (by simp [keys]) (by simp [keys]; rfl) ?_)); try simp [hC, hY, hp, c0, c1])); (first | refine hQ _ _ _ _ ?_ | refine hQ _ _ _ _ (by kernel_rfl) ?_ | refine hP _ _ (fun _ => ?_) | refine hP _ _ (by kernel_rfl) (fun _ => ?_)); clear hQ hP Q) | refine GW_block ?_ | refine GW_ret ?_ | refine GW_skip ?_ | refine GW_exit ?_ | refine GW_goto ?_ | refine GW_label ?_ | simp only [blockG_exit] | (refine GW_cond (by simp; rfl) ?_ ?_ <;> (intro hb; first | (exfalso; exact absurd hb (by decide)) | skip)))
      refine GW_list ?_
      simp only [Array.toList]
      refine GL_walk 3 [] rfl (by simp) (by kernel_rfl) ?_; intro q hq; simp [hC, hY]; refine hq _ _ _ _ ?_; clear hq q
      simp only [wT, List.length_cons, List.length_nil, Nat.reduceAdd]
      refine GL_callL (f := .func 46) (cap := #[]) hC (ways_at 320 (by omega) b off n cap h.fx st p q) rfl (by simp) rfl rfl (by simp [okT]) (by simp [gev]) (by simp) (by simp [okX, junk]) (by simp [gev]) (by simp) (by (intro k hk; first | rfl | (simp (disch := omega) only [addB, List.mem_cons, List.not_mem_nil, or_false, upd_other, hpL_cons, hpL_nil, if_neg, updL] <;> done))) (fun v ns hV k hk => by have := wayR_key hV k hk; omega) ?_
      rintro v ns ⟨rfl, rfl⟩
      refine GL_callL (f := .func 45) (cap := #[]) hC (col_at 320 328 (by omega) (by omega) b off n cap f h st p q hp hq) rfl (by simp) rfl rfl (by simp [okT]) (by simp [gev]) (by simp) (by simp [okX, putT, junk]) (by simp [gev, putT]) ?_ ?_ (fun v ns hV k hk => by have := vecR_key hV k hk; omega) ?_
      · simp [wayNs, updL]
      · intro k hk
        simp (disch := omega) only [wayNs, updL, upd_other, hpL_cons, hpL_nil, if_neg]
      intro v ns hV
      rcases hV with ⟨rfl, rfl, rfl⟩ | ⟨c, g, hi0, hic, hg, rfl, rfl⟩
      ·
        refine GL_walk 2 [] rfl (by simp) (by kernel_rfl) ?_; intro q hq; simp [hC, hY, putT, updL, wayNs]; refine hq _ _ _ _ ?_; clear hq q
        simp only [wT, List.length_cons, List.length_nil, Nat.reduceAdd]
        refine GL_nil ?_
        repeat' (first | refine GW_seq ?_ | simp only [List.length_cons, List.length_nil, Nat.reduceAdd, Nat.reduceMul, wN] | ((first | refine GW_region' [] (by kernel_rfl) ?_ | refine GW_draw' [] follows (by kernel_rfl) (by kernel_rfl) ?_); intro Q hQ hP; simp [hC, hY]; (first | refine hQ _ _ _ _ ?_ | refine hQ _ _ _ _ (by kernel_rfl) ?_ | refine hP _ _ (fun _ => ?_) | refine hP _ _ (by kernel_rfl) (fun _ => ?_)); clear hQ hP Q) | refine GW_block ?_ | refine GW_ret ?_ | refine GW_skip ?_ | refine GW_exit ?_ | refine GW_goto ?_ | refine GW_label ?_ | simp only [blockG_exit] | (refine GW_cond (by simp; rfl) ?_ ?_ <;> (intro hb; first | (exfalso; exact absurd hb (by decide)) | skip)))
        refine ⟨.inr trivial, keep_of G0F (by simp) (by (intro k hk; first | rfl | (simp (disch := omega) only [addB, List.mem_cons, List.not_mem_nil, or_false, upd_other, hpL_cons, hpL_nil, if_neg, updL] <;> done))), _, _, fun k => k, ⟨_, .inl ⟨by simp, rfl, rfl⟩, rfl⟩, fun _ _ => rfl, by simp, by simp, by simp [Tryd.results19, ren, renA, renF, ren0], by simp⟩
      ·
        refine GL_walk 2 [] rfl (by simp) (by kernel_rfl) ?_; intro q hq; simp [hC, hY, putT, updL, wayNs]; refine hq _ _ _ _ ?_; clear hq q
        simp only [wT, List.length_cons, List.length_nil, Nat.reduceAdd]
        refine GL_nil ?_
        repeat' (first | refine GW_seq ?_ | simp only [List.length_cons, List.length_nil, Nat.reduceAdd, Nat.reduceMul, wN] | ((first | refine GW_region' [] (by kernel_rfl) ?_ | refine GW_draw' [] follows (by kernel_rfl) (by kernel_rfl) ?_); intro Q hQ hP; simp [hC, hY]; (first | refine hQ _ _ _ _ ?_ | refine hQ _ _ _ _ (by kernel_rfl) ?_ | refine hP _ _ (fun _ => ?_) | refine hP _ _ (by kernel_rfl) (fun _ => ?_)); clear hQ hP Q) | refine GW_block ?_ | refine GW_ret ?_ | refine GW_skip ?_ | refine GW_exit ?_ | refine GW_goto ?_ | refine GW_label ?_ | simp only [blockG_exit] | (refine GW_cond (by simp; rfl) ?_ ?_ <;> (intro hb; first | (exfalso; exact absurd hb (by decide)) | skip)))
        refine ⟨.inr trivial, keep_of G0F (by simp) (by (intro k hk; first | rfl | (simp (disch := omega) only [addB, List.mem_cons, List.not_mem_nil, or_false, upd_other, hpL_cons, hpL_nil, if_neg, updL] <;> done))), _, _, fun k => if k = 1000 then 328 else k, ⟨_, .inr ⟨c, g, by simpa using hi0, by simpa using hic, by simpa using hg, by simp; rfl, rfl⟩, rfl⟩, fun k hk => if_neg (by omega), by simp, by simp, by simp [Tryd.results19, ren, renA, renF, ren0], by simp [fa_rn]⟩
end Go.Gy
namespace Go.Gy
open Go Go.RowKit Go.Proofs
/-- Body i, gone on, is within. -/
def okB (f : Nat → Int) (p q : Int) (i : Nat) : Bool := inV 1048576 (f (6 * i) + dwV f p q i 0) (f (6 * i + 1) + dwV f p q i 1) (f (6 * i + 2) + dwV f p q i 2)
def drOk (f : Nat → Int) (p q : Int) (n : Nat) : Bool := (List.range n).all (okB f p q)
def drE (st : Int) (f : Nat → Int) (n : Nat) (p q : Int) : Int := if (rightB st f n && partB p q) = true then (if drOk f p q n = true then 0 else 20) else 2
def mvF (f : Nat → Int) (p q : Int) (j : Nat) : Int := if j % 6 < 3 then f j + dwV f p q (j / 6) (j % 6) else f j
def drF (st : Int) (f : Nat → Int) (n : Nat) (p q : Int) : Nat → Int := if drE st f n p q = 0 then mvF f p q else f
theorem drOk_iff {f : Nat → Int} {p q : Int} {n : Nat} : drOk f p q n = true ↔ ∀ i, i < n → okB f p q i = true := by simp [drOk]
theorem drOk_f {f : Nat → Int} {p q : Int} {n i : Nat} (hi : i < n) (h : okB f p q i = false) : drOk f p q n = false := by
  cases hb : drOk f p q n with
  | false => rfl
  | true => rw [drOk_iff.1 hb i hi] at h; cases h
theorem inV_iff {m x y z : Int} : inV m x y z = true ↔ inW m x ∧ inW m y ∧ inW m z := by unfold inV; exact decide_eq_true_iff
theorem right_n {st : Int} {f : Nat → Int} {n : Nat} (h : rightB st f n = true) : (-1073741824 ≤ st ∧ st ≤ 1073741824) ∧ (1 ≤ n ∧ n ≤ 4) ∧ ∀ i, i < n → inB 1048576 65536 f i = true := by
  unfold rightB stB at h
  simp only [Bool.and_eq_true, decide_eq_true_eq] at h
  exact ⟨h.1.1, h.1.2, allB_iff.1 h.2⟩
theorem right_b {st : Int} {f : Nat → Int} {n : Nat} (h : rightB st f n = true) {i : Nat} (hi : i < n) : (inW 1048576 (f (6 * i)) ∧ inW 1048576 (f (6 * i + 1)) ∧ inW 1048576 (f (6 * i + 2))) ∧ (inW 65536 (f (6 * i + 3)) ∧ inW 65536 (f (6 * i + 4)) ∧ inW 65536 (f (6 * i + 5))) := by
  have := (right_n h).2.2 i hi
  unfold inB at this
  rw [Bool.and_eq_true, inV_iff, inV_iff] at this
  exact this
theorem d1E_in {v p q : Int} (hp : partB p q = true) (hv : inW 65536 v) : d1E v p q = 0 := by
  unfold inW at hv
  unfold d1E
  rw [if_pos ⟨hp, by omega, by omega⟩]
theorem d1V_in {v p q : Int} (hp : partB p q = true) (hv : inW 65536 v) : d1V v p q = nearQ (v * p) q := by
  unfold inW at hv
  unfold d1V
  rw [if_pos ⟨hp, by omega, by omega⟩]
theorem right_dwE {st : Int} {f : Nat → Int} {n : Nat} {p q : Int} (h : rightB st f n = true) (hp : partB p q = true) {i : Nat} (hi : i < n) : dwE f p q i = 0 := by
  obtain ⟨_, h3, h4, h5⟩ := right_b h hi
  unfold dwE
  rw [wyE_2 (d1E_in hp h3) (d1E_in hp h4), d1E_in hp h5]
theorem right_dwV {st : Int} {f : Nat → Int} {n : Nat} {p q : Int} (h : rightB st f n = true) (hp : partB p q = true) {i : Nat} (hi : i < n) {u : Nat} (hu : u < 3) : dwV f p q i u = nearQ (f (6 * i + 3 + u) * p) q := by
  obtain ⟨_, h3, h4, h5⟩ := right_b h hi
  have hv : inW 65536 (f (6 * i + 3 + u)) := by
    obtain rfl | rfl | rfl : u = 0 ∨ u = 1 ∨ u = 2 := by omega
    · exact h3
    · exact h4
    · exact h5
  unfold dwV
  rw [right_dwE h hp hi, eaV, if_pos rfl, d1V_in hp hv]
theorem eaE_or (op : Int → Int → Int) (a0 a1 a2 b0 b1 b2 : Int) : eaE op a0 a1 a2 b0 b1 b2 = 0 ∨ eaE op a0 a1 a2 b0 b1 b2 = 20 := by unfold eaE; split <;> simp
/-- What does not fit into a point is not within. -/
theorem ok_over {x0 x1 x2 w0 w1 w2 : Int} (h0 : inW 1048576 x0) (h1 : inW 1048576 x1) (h2 : inW 1048576 x2) (he : eaE addI x0 x1 x2 w0 w1 w2 = 20) : inV 1048576 (x0 + w0) (x1 + w1) (x2 + w2) = false := by
  cases hb : inV 1048576 (x0 + w0) (x1 + w1) (x2 + w2) with
  | false => rfl
  | true =>
    rw [inV_iff] at hb
    unfold eaE at he
    rw [if_pos] at he
    · exact absurd he (by decide)
    · unfold inW at *
      unfold fnI addI
      omega
/-- The row behind i rounds: of what it was, g. -/
def mvG (g f : Nat → Int) (p q : Int) (i j : Nat) : Int := if j < 6 * i ∧ j % 6 < 3 then f j + dwV f p q (j / 6) (j % 6) else g j
theorem mvG_0 (g f : Nat → Int) (p q : Int) : mvG g f p q 0 = g := by
  funext j
  unfold mvG
  rw [if_neg (by omega)]
theorem mvG_at {g f : Nat → Int} {p q : Int} {i j : Nat} (h : 6 * i ≤ j) : mvG g f p q i j = g j := by
  unfold mvG
  rw [if_neg (by omega)]
theorem mvG_end {g f : Nat → Int} {p q : Int} {n j : Nat} (h : j < 6 * n) (hg : ∀ j, j < 6 * n → g j = f j) : mvG g f p q n j = mvF f p q j := by
  unfold mvG mvF
  by_cases c : j % 6 < 3
  · rw [if_pos ⟨h, c⟩, if_pos c]
  · rw [if_neg (by omega), if_neg c]; exact hg j h
theorem mvG_put {g f : Nat → Int} {p q : Int} {i : Nat} {a b c : Int} (ha : a = f (6 * i) + dwV f p q i 0) (hb : b = f (6 * i + 1) + dwV f p q i 1) (hc : c = f (6 * i + 2) + dwV f p q i 2) : put3 (mvG g f p q i) (6 * i) a b c = mvG g f p q (i + 1) := by
  funext j
  unfold put3
  by_cases c0 : j = 6 * i
  · rw [if_pos c0, ha]
    unfold mvG
    rw [if_pos (by omega), c0, show 6 * i / 6 = i by omega, show 6 * i % 6 = 0 by omega]
  · rw [if_neg c0]
    by_cases c1 : j = 6 * i + 1
    · rw [if_pos c1, hb]
      unfold mvG
      rw [if_pos (by omega), c1, show (6 * i + 1) / 6 = i by omega, show (6 * i + 1) % 6 = 1 by omega]
    · rw [if_neg c1]
      by_cases c2 : j = 6 * i + 2
      · rw [if_pos c2, hc]
        unfold mvG
        rw [if_pos (by omega), c2, show (6 * i + 2) / 6 = i by omega, show (6 * i + 2) % 6 = 2 by omega]
      · rw [if_neg c2]
        unfold mvG
        by_cases c3 : j < 6 * i ∧ j % 6 < 3
        · rw [if_pos c3, if_pos (by omega)]
        · rw [if_neg c3, if_neg (by omega)]
/-- What a drift hands back. -/
def DriftR (nk : Nat) (st : Int) (n : Nat) (F : Nat → Int) (E : Int) (v : Value) (ns : List (Nat × Blk)) : Prop := ∃ v0, OwnS nk st n F v0 ns ∧ v = .tuple #[v0, .int .i64 E]
theorem driftR_fit {b : Blk} {st : Int} {n : Nat} {F : Nat → Int} {E : Int} (v : Value) (ns : List (Nat × Blk)) (h : DriftR 1000 st n F E v ns) : idsV (extD (fun k => k ∈ keys [(100, b)]) ns) v ∧ (∀ p ∈ ns, 200 ≤ p.1 ∧ p.2.ids (extD (fun k => k ∈ keys [(100, b)]) ns)) ∧ (∀ k b c, (k, b) ∈ ns → (k, c) ∈ ns → b = c) := by
  obtain ⟨v0, hV, rfl⟩ := h
  obtain ⟨f1, f2, f3⟩ := owns_fit (b := b) v0 ns hV
  refine ⟨?_, f2, f3⟩
  obtain ⟨c, M, g, h1, h2, h3, rfl, rfl⟩ := hV
  simp [idsV, idsA, idsF, ids0, extD, keys]
end Go.Gy
namespace Go.Gy
set_option linter.unusedSimpArgs false
open Go Go.RowKit
section
variable {P : Program} {C : Ctx} {n : Nat} {d : List Deferred} {ro : Option Nat} {s : GS} {K : Exit → GS → Prop}
/-- The names of what is not done yet are free. -/
structure AFree (ops : Array Oper) (base : Nat) (listed : Array Bool) (hp : Hp) : Prop where
  at' : ∀ i, listed[i]? = some false → ∀ x, base + 8 * i ≤ x → x < base + 8 * i + 8 → hp x = none
  up : ∀ x, base + 8 * ops.size ≤ x → hp x = none
/-- What is left of a region that draws its order does, where those of 'listed' are done. -/
def GA (P : Program) (C : Ctx) (n : Nat) (d : List Deferred) (ro : Option Nat) (ops : Array Oper) (base : Nat) (fuel : Nat) (listed : Array Bool) (ts : Nat → Value) (hp : Hp) (yc : Nat) (K : Exit → GS → Prop) : Prop :=
  ∀ r a W, RI C n d r ts hp yc a W → AFree ops base listed hp → 100 ≤ base → GFlat C.G → (∀ y, C.Y = some y → Rounds P C.G C.E y) → wpAnyIn (Fw P ro) 0 P .any ops (fun e a' W' => ∃ s' r', K e s' ∧ GI P C n d r' s' a' W') fuel listed a W
/-- One of them comes up. -/
def GO (P : Program) (C : Ctx) (n : Nat) (d : List Deferred) (ro : Option Nat) (ops : Array Oper) (base : Nat) (fuel : Nat) (listed : Array Bool) (i : Nat) (ts : Nat → Value) (hp : Hp) (yc : Nat) (K : Exit → GS → Prop) : Prop :=
  ∀ r a W, RI C n d r ts hp yc a W → AFree ops base listed hp → 100 ≤ base → GFlat C.G → (∀ y, C.Y = some y → Rounds P C.G C.E y) → wpOpIn (Fw P ro) 0 P ops (fun e a' W' => ∃ s' r', K e s' ∧ GI P C n d r' s' a' W') i (wpAnyIn (Fw P ro) 0 P .any ops (fun e a' W' => ∃ s' r', K e s' ∧ GI P C n d r' s' a' W') fuel (listed.setIfInBounds i true)) a W
theorem GW_any {id : Nat} {l : List Oper} (hm : P.follows .mixedOrders = true) (h : GA P C n d ro l.toArray s.B l.length (Array.replicate l.length false) s.ts s.hp s.yc K) : GW P C n d ro (.region id l.toArray true) s K := fun r a W hi =>
  wpIn_region_any hm (by
    have := h r a _ hi.ri.drew ⟨fun i _ x hx _ => hi.free x (by omega), fun x hx => hi.free x (by omega)⟩ hi.low hi.flat hi.rounds
    simpa using this)
theorem GA_nil {ops : Array Oper} {base fuel : Nat} {listed : Array Bool} {ts : Nat → Value} {hp : Hp} {yc : Nat} (hr : Region.ready .any ops listed = []) (h : K .normal ⟨ts, hp, base + 8 * ops.size, yc⟩) : GA P C n d ro ops base fuel listed ts hp yc K := fun r a W hi hf hb hG hR => by
  have hq : ∃ s' r', K .normal s' ∧ GI P C n d r' s' a W := ⟨⟨ts, hp, _, yc⟩, r, h, hi, hf.up, by show 100 ≤ base + 8 * ops.size; omega, hG, hR⟩
  cases fuel with
  | zero => exact ⟨hr, hq⟩
  | succ k => exact ⟨fun _ => hq, fun i hi => by rw [hr] at hi; cases hi⟩
theorem GA_step {ops : Array Oper} {base fuel : Nat} {listed : Array Bool} {ts : Nat → Value} {hp : Hp} {yc : Nat} (l : List Nat) (hr : Region.ready .any ops listed = l) (hl : l.isEmpty = false) (h : ∀ i ∈ l, GO P C n d ro ops base fuel listed i ts hp yc K) : GA P C n d ro ops base (fuel + 1) listed ts hp yc K := fun r a W hi hf hb hG hR => by
  refine ⟨fun h0 => ?_, fun i hm => h i (by rw [← hr]; exact hm) r a W hi hf hb hG hR⟩
  rw [hr] at h0; rw [h0] at hl; cases hl
theorem AFree.after {ops : Array Oper} {base : Nat} {listed : Array Bool} {hp hp' : Hp} (h : AFree ops base listed hp) {i : Nat} (hi : i < ops.size) (e : ∀ x, hp x = none → ¬ (base + 8 * i ≤ x ∧ x < base + 8 * i + 8) → hp' x = none) : AFree ops base (listed.setIfInBounds i true) hp' := by
  refine ⟨fun j hj x h1 h2 => ?_, fun x hx => e x (h.up x hx) (by omega)⟩
  rw [Array.getElem?_setIfInBounds] at hj
  split at hj
  · split at hj <;> cases hj
  · exact e x (h.at' j hj x h1 h2) (by omega)
theorem GO_walk {l0 : List Oper} {o : Oper} {post : List Oper} {base i fuel : Nat} {listed : Array Bool} {ts : Nat → Value} {hp : Hp} {yc : Nat} (pn : List FuncId) (hl : l0.drop i = o :: post) (hdst : (dstOk n [o] && unOk P [o]) = true) (hi : listed[i]? = some false)
    (h : ∀ q : (Nat → Value) → Hp → Tr → Nat → Prop, (∀ ts hp tr yc, GA P C n d ro l0.toArray base fuel (listed.setIfInBounds i true) ts hp yc K → q ts hp tr yc) →
      lexS P C.G ⟨C.Y, pn, false⟩ base ⟨q, fun _ _ => False⟩ ((l0.take i).map (·.dst)).reverse i [o] ts hp [] yc true false) : GO P C n d ro l0.toArray base fuel listed i ts hp yc K := by
  intro r a W hRI hf hb hG hR
  simp only [Bool.and_eq_true] at hdst
  have hok := And.intro (dstOk_spec hdst.1 (List.mem_singleton.2 rfl)) (unOk_spec hdst.2 o (List.mem_singleton.2 rfl))
  have hi0 : l0[i]? = some o := by
    have := congrArg (fun l => l[0]?) hl
    simpa [List.getElem?_drop] using this
  have hlt : i < l0.length := (List.getElem?_eq_some_iff.1 hi0).1
  have hh := h (fun ts hp _ yc => GA P C n d ro l0.toArray base fuel (listed.setIfInBounds i true) ts hp yc K) (fun _ _ _ _ a => a)
  have ek : (l0.take i).length = i := by simp; omega
  have hx : lexX P C.G ⟨C.Y, pn, false⟩ l0.toArray base (fun ts hp _ yc => GA P C n d ro l0.toArray base fuel (listed.setIfInBounds i true) ts hp yc K) (fun _ _ => False) i [o] ts hp [] yc true false := by
    refine lexX_of_lexS' (Q := ⟨_, fun _ _ => False⟩) [o] _ i _ _ _ _ _ _ (fun j hj => ?_) (fun j hj => ?_) hh
    · rw [List.getElem?_reverse (by simp; omega)]
      simp only [List.length_map, ek, List.getElem?_map, List.getElem?_toArray]
      rw [show i - 1 - (i - 1 - j) = j by omega, List.getElem?_take, if_pos hj]
      cases l0[j]? <;> rfl
    · obtain rfl : j = 0 := by simpa using hj
      simp [hi0]
  have hfree : ∀ x, base + 8 * i ≤ x → x < base + 8 * i + 8 → hp x = none := hf.at' i hi
  unfold wpOpIn
  rw [List.getElem?_toArray, hi0]
  simp only
  simp only [lexX] at hx
  cases hw : wantedG l0.toArray o ts with
  | none => rw [hw] at hx; exact hx.elim
  | some b =>
    rw [hw] at hx
    rw [wantedG_eq hRI.rel hw]
    cases b with
    | true =>
      simp only at hx
      simp only [if_true]
      obtain ⟨e, h1, hs, hyd, h3⟩ := opX_sound hG hRI.glob hx
      refine meets hG hR o e ts hp yc r a W 0 _ _ hRI hok.1 h1 (fun x hx => (hs.ws x hx).2) (fun x hx => ?_) (fun r' a' W' hpn hi' => ?_) (fun pv W' yc' hpn hi' => ?_)
      · have := hs.ns x hx; exact ⟨hfree x (by omega) (by omega), by omega⟩
      · rw [hpn] at h3
        refine h3 r' a' W' hi' (hf.after (by simpa using hlt) fun x hx0 hx1 => ?_) hb hG hR
        rw [updL_other (fun hm => ?_)]
        · exact hx0
        · have : x ∈ keys e.ws ∨ x ∈ keys e.ns := by simpa [keys] using hm
          rcases this with h | h
          · exact (hs.ws x h).2.1 hx0
          · have := hs.ns x h; omega
      · rw [hpn] at h3
        exact h3.2.2.elim
    | false =>
      simp only at hx
      simp only [Bool.false_eq_true, if_false]
      exact ⟨meetsU (Y := none) o ts r _ a W hRI.rel ⟨hx.1, hok.2⟩, hx.2 r _ W (hRI.put_undef hok.1.1) (hf.after (by simpa using hlt) fun x hx0 _ => hx0) hb hG hR⟩
/-- What a call asks that hands back any of a kind. -/
theorem GO_callL {G : Hp} {ops : Array Oper} {o : Oper} {base i fuel : Nat} {listed : Array Bool} {ts : Nat → Value} {hp hp' : Hp} {yc : Nat} {c : Call} {f : Operand} {g : FuncId} {cap : Array Value} {rs : List Nat} {args : Array Value} {R : Value → List (Nat × Blk) → Prop} (hCG : C.G = G) (hr : FunS P G g args hp' rs R) (hio : ops[i]? = some o) (hi : listed[i]? = some false) (hg : o.guard = none) (hd : ∀ dd, o.dst = some dd → dd < n)
    (ho : o.op = .call c) (hc : c.callee = .value f) (hf : okT ts f) (hgf : gev ts f = .func (.func g) #[] cap) (hcp : cap.all plain0 = true) (ha : ∀ x ∈ c.args.toList, okX ts hp x) (hargs : c.args.map (gev ts) ++ cap = args)
    (h1 : ∀ q ∈ rs, hp' q = hp q) (h2 : ∀ q, q < 100 → hp' q = hp q) (hat : ∀ v ns, R v ns → ∀ q ∈ keys ns, base + 8 * i ≤ q ∧ q < base + 8 * i + 8)
    (h : ∀ v ns, R v ns → GA P C n d ro ops base fuel (listed.setIfInBounds i true) (putT ts o.dst v) (updL hp ns) yc K) : GO P C n d ro ops base fuel listed i ts hp yc K := by
  subst hCG
  intro r a W hRI hfr hb hG hR
  unfold wpOpIn
  rw [hio]
  simp only [Region.wanted, hg, if_true]
  refine step_callS hG hRI hd ho hc hf hgf hcp ha (by rw [hargs]; exact hr.under fun q hq => hq.elim (h2 q) (h1 q)) (fun v ns hRv q hq => hfr.at' i hi q (hat v ns hRv q hq).1 (hat v ns hRv q hq).2) (fun v ns hRv r' a' W' hi' => h v ns hRv r' a' W' hi' (hfr.after (Array.getElem?_eq_some_iff.1 hio).1 fun x hx hx1 => ?_) hb hG hR)
  rw [updL_other (fun hm => hx1 (hat v ns hRv x hm))]
  exact hx
theorem all_two {p : Nat → Prop} {a b : Nat} (h1 : p a) (h2 : p b) : ∀ i ∈ [a, b], p i := fun i hi => by
  simp at hi
  rcases hi with rfl | rfl
  · exact h1
  · exact h2
theorem all_one {p : Nat → Prop} {a : Nat} (h1 : p a) : ∀ i ∈ [a], p i := fun i hi => by
  simp at hi
  subst hi
  exact h1
end
end Go.Gy
namespace Go.Gy
set_option linter.unusedSimpArgs false
set_option linter.unusedVariables false
open Go Go.RowKit Go.Proofs
def erB (E : Int) : Blk := ⟨#[.int .i64 E], .ty 29⟩
/-- Where the label stands. -/
def drSt (b : Blk) (st : Int) (off n cap c M : Nat) (g : Nat → Int) (E : Int) : GS :=
  ⟨tsL [(3, .pointer (some ⟨200, 0, none⟩)), (6, .pointer (some ⟨208, 0, none⟩)), (7, .pointer (some ⟨216, 0, none⟩))],
   hpL G0 [(100, b), (200, stB' st 100 off n cap), (208, stB' st 248 0 n c), (216, erB E), (248, ⟨fa M .i64 g, .ty 44⟩)], 600, 0⟩
/-- What lies about behind i rounds. -/
def drM (st : Int) (n c M : Nat) (g f : Nat → Int) (p q : Int) (i : Nat) : List (Nat × Blk) := [(208, stB' st 248 0 n c), (216, erB 0), (224, jb i), (248, ⟨fa M .i64 (mvG g f p q i), .ty 44⟩)]
theorem put_row {M n : Nat} {g f : Nat → Int} {p q : Int} (hM : 6 * n ≤ M) {i : Nat} (hi : i < n) :
    (((fa M IntKind.i64 (mvG g f p q i)).setIfInBounds (i * 6) (Value.int IntKind.i64 (addI (f (6 * i)) (dwV f p q i 0)))).setIfInBounds (i * 6 + 1) (Value.int IntKind.i64 (addI (f (6 * i + 1)) (dwV f p q i 1)))).setIfInBounds (i * 6 + 1 + 1) (Value.int IntKind.i64 (addI (f (6 * i + 2)) (dwV f p q i 2))) = fa M IntKind.i64 (mvG g f p q (i + 1)) := by
  have := splice_3 M .i64 (mvG g f p q i) (6 * i) (addI (f (6 * i)) (dwV f p q i 0)) (addI (f (6 * i + 1)) (dwV f p q i 1)) (addI (f (6 * i + 2)) (dwV f p q i 2)) (by omega)
  rw [mvG_put (a := addI (f (6 * i)) (dwV f p q i 0)) (b := addI (f (6 * i + 1)) (dwV f p q i 1)) (c := addI (f (6 * i + 2)) (dwV f p q i 2)) rfl rfl rfl] at this
  rw [show i * 6 = 6 * i by omega]
  simpa [splice] using this
theorem ea_in {x0 x1 x2 w0 w1 w2 : Int} (he : eaE addI x0 x1 x2 w0 w1 w2 = 0) : i64 (addI x0 w0) ∧ i64 (addI x1 w1) ∧ i64 (addI x2 w2) := by
  unfold eaE at he
  split at he
  · rename_i h
    obtain ⟨_, h0, h1, h2⟩ := h
    unfold fnI at h0 h1 h2
    exact ⟨⟨by omega, by omega⟩, ⟨by omega, by omega⟩, ⟨by omega, by omega⟩⟩
  · cases he
theorem eaV_0 (z : Int) : eaV 0 z = z := by simp [eaV]
theorem row_vec {M n : Nat} {g f : Nat → Int} {p q : Int} (hM : 6 * n ≤ M) (hg : ∀ j, j < 6 * n → g j = f j) {i : Nat} (hi : i < n) : loadK Tryd.prog 26 ⟨fa M .i64 (mvG g f p q i), .ty 44⟩ (i * 6) = some (.agg #[.int .i64 (f (6 * i)), .int .i64 (f (6 * i + 1)), .int .i64 (f (6 * i + 2))]) := by
  have := loadK_rd (P := Tryd.prog) (T := 26) (m := 3) (j := 6 * i) (tyAgg_of Tryd.isAgg26) (tySize_of Tryd.sizeOf26) (by omega) (rdI_fa M (mvG g f p q i) (.ty 44)) (by omega)
  rw [show i * 6 = 0 + 6 * i by omega, this, fa_3, mvG_at (by omega), mvG_at (by omega), mvG_at (by omega), hg _ (by omega), hg _ (by omega), hg _ (by omega)]
  rfl
set_option maxRecDepth 8000 in
set_option maxHeartbeats 4000000 in
theorem drift_fun (b : Blk) (off n cap : Nat) (f : Nat → Int) (h : SB b off n f) (hcap : n ≤ cap) (st p q : Int) (hs : i64 st) (hp : i64 p) (hq : i64 q) :
    FunS Tryd.prog G0 21 #[.agg #[.int .i64 st, .slice (some ⟨100, off, none⟩) n cap], .int .i64 p, .int .i64 q] (hpL G0 [(100, b)]) (keys [(100, b)]) (DriftR 1000 st n (drF st f n p q) (drE st f n p q)) := by
  refine newS_ofL (B := 200) G0F Tryd.func21 rfl Tryd.call21 (oneL_ok h.fx) ?_ driftR_fit (by simp [Tryd.ntmps21]) (by omega) ?_
  · simp [idsV, idsA, idsF, ids0, keys]
  intro C hC hC0 hY
  have hr := fun ρ => Blk.fx_rn h.fx ρ
  have hid := fun D => Blk.fx_ids h.fx D
  have hnn := h.nn
  repeat' (first | refine GW_seq ?_ | simp only [List.length_cons, List.length_nil, Nat.reduceAdd, Nat.reduceMul, wN] | ((first | refine GW_region' [] (by kernel_rfl) ?_ | refine GW_draw' [] follows (by kernel_rfl) (by kernel_rfl) ?_); intro Q hQ hP; simp [hC, hY]; (first | refine hQ _ _ _ _ ?_ | refine hQ _ _ _ _ (by kernel_rfl) ?_ | refine hP _ _ (fun _ => ?_) | refine hP _ _ (by kernel_rfl) (fun _ => ?_)); clear hQ hP Q) | refine GW_block ?_ | refine GW_ret ?_ | refine GW_skip ?_ | refine GW_exit ?_ | refine GW_goto ?_ | refine GW_label ?_ | simp only [blockG_exit] | (refine GW_cond (by simp; rfl) ?_ ?_ <;> (intro hb; first | (exfalso; exact absurd hb (by decide)) | skip)))
  refine GW_scope' 0 (fun m s => ∃ (c M : Nat) (g : Nat → Int) (E : Int), drE st f n p q = E ∧ E ≠ 0 ∧ s = drSt b st off n cap c M g E) rfl ?_ ?_
  · rintro m _ ⟨c, M, g, E, hE, hE0, rfl⟩
    have hF : drF st f n p q = f := by unfold drF; rw [if_neg (by omega)]
    rw [hF, hE]
    have hend : ∀ (ts : Nat → Value) (hp : Hp) (v0 : Value) (ns : List (Nat × Blk)), True := fun _ _ _ _ => trivial
    unfold drSt stB' erB
    refine GW_seq ?_
    refine GW_any follows ?_
    simp only [Array.toList, List.length_cons, List.length_nil, Nat.reduceAdd]
    repeat' (first
      | refine GA_step [0, 2] (by decide +kernel) rfl (all_two ?_ ?_)
      | refine GA_step [1, 2] (by decide +kernel) rfl (all_two ?_ ?_)
      | refine GA_step [2, 3] (by decide +kernel) rfl (all_two ?_ ?_)
      | refine GA_step [0] (by decide +kernel) rfl (all_one ?_)
      | refine GA_step [1] (by decide +kernel) rfl (all_one ?_)
      | refine GA_step [2] (by decide +kernel) rfl (all_one ?_)
      | refine GA_step [3] (by decide +kernel) rfl (all_one ?_)
      | refine GA_step [4] (by decide +kernel) rfl (all_one ?_)
      | refine GA_nil (by decide +kernel) ?_
      | (
        refine GO_walk [] rfl (by kernel_rfl) (by simp) ?_; intro q hq; simp [hC, hY, putT, updL, stB', erB]; refine hq _ _ _ _ ?_; clear hq q
        )
      | (refine GO_callL (f := .func 47) (cap := #[]) hC (own_at 608 (by omega) b off n cap f h hcap st) rfl rfl rfl (by simp) rfl rfl (by simp [okT]) (by simp [gev]) (by simp) (by simp [okX, putT, junk, upd]) (by simp [gev, putT, upd]) (by simp [updL]) (by (intro k hk; first | rfl | (simp (disch := omega) only [addB, List.mem_cons, List.not_mem_nil, or_false, upd_other, hpL_cons, hpL_nil, if_neg, updL] <;> done))) ?_ ?_
         · rintro v ns ⟨c3, M3, g3, k1, k2, k3, rfl, rfl⟩
           simp [keys]
         rintro v ns ⟨c3, M3, g3, k1, k2, k3, rfl, rfl⟩)
      )
    all_goals (
      repeat' (first | refine GW_seq ?_ | simp only [List.length_cons, List.length_nil, Nat.reduceAdd, Nat.reduceMul, wN] | ((first | refine GW_region' [] (by kernel_rfl) ?_ | refine GW_draw' [] follows (by kernel_rfl) (by kernel_rfl) ?_); intro Q hQ hP; simp [hC, hY]; (first | refine hQ _ _ _ _ ?_ | refine hQ _ _ _ _ (by kernel_rfl) ?_ | refine hP _ _ (fun _ => ?_) | refine hP _ _ (by kernel_rfl) (fun _ => ?_)); clear hQ hP Q) | refine GW_block ?_ | refine GW_ret ?_ | refine GW_skip ?_ | refine GW_exit ?_ | refine GW_goto ?_ | refine GW_label ?_ | simp only [blockG_exit] | (refine GW_cond (by simp; rfl) ?_ ?_ <;> (intro hb; first | (exfalso; exact absurd hb (by decide)) | skip)))
      )
    all_goals (refine ⟨.inr trivial, keep_of G0F (by simp) (by (intro k hk; first | rfl | (simp (disch := omega) only [addB, List.mem_cons, List.not_mem_nil, or_false, upd_other, hpL_cons, hpL_nil, if_neg, updL] <;> done))), _, _, fun k => if k = 1000 then 608 else k, ⟨_, ⟨c3, M3, g3, k1, k2, k3, rfl, rfl⟩, rfl⟩, fun k hk => if_neg (by omega), by simp, by simp, ?_, ?_⟩)
    all_goals first | (simp [Tryd.results21, ren, renA, renF, ren0]; done) | simp [fa_rn]
  · intro pass
    clear pass
    repeat' (first | refine GW_seq ?_ | simp only [List.length_cons, List.length_nil, Nat.reduceAdd, Nat.reduceMul, wN] | ((first | refine GW_region' [] (by kernel_rfl) ?_ | refine GW_draw' [] follows (by kernel_rfl) (by kernel_rfl) ?_); intro Q hQ hP; simp [hC, hY]; (first | refine hQ _ _ _ _ ?_ | refine hQ _ _ _ _ (by kernel_rfl) ?_ | refine hP _ _ (fun _ => ?_) | refine hP _ _ (by kernel_rfl) (fun _ => ?_)); clear hQ hP Q) | refine GW_block ?_ | refine GW_ret ?_ | refine GW_skip ?_ | refine GW_exit ?_ | refine GW_goto ?_ | refine GW_label ?_ | simp only [blockG_exit] | (refine GW_cond (by simp; rfl) ?_ ?_ <;> (intro hb; first | (exfalso; exact absurd hb (by decide)) | skip)))
    refine GW_list ?_
    simp only [Array.toList]
    refine GL_walk 1 [] rfl (by simp) (by kernel_rfl) ?_; intro q hq; simp [hC, hY]; refine hq _ _ _ _ ?_; clear hq q
    simp only [wT, List.length_cons, List.length_nil, Nat.reduceAdd]
    refine GL_callL (f := .func 47) (cap := #[]) hC (own_at 248 (by omega) b off n cap f h hcap st) rfl (by simp) rfl rfl (by simp [okT]) (by simp [gev]) (by simp) (by simp [okX, junk]) (by simp [gev]) (by simp) (by (intro k hk; first | rfl | (simp (disch := omega) only [addB, List.mem_cons, List.not_mem_nil, or_false, upd_other, hpL_cons, hpL_nil, if_neg, updL] <;> done))) ?_ ?_
    · rintro v ns ⟨c2, M2, g2, h1, h2, h3, rfl, rfl⟩
      simp [keys]
    rintro v ns ⟨c2, M2, g2, h1, h2, h3, rfl, rfl⟩
    refine GL_walk 1 [] rfl (by simp) (by kernel_rfl) ?_; intro q hq; simp [hC, hY, putT, updL]; refine hq _ _ _ _ ?_; clear hq q
    simp only [wT, List.length_cons, List.length_nil, Nat.reduceAdd]
    refine GL_nil ?_
    repeat' (first | refine GW_seq ?_ | simp only [List.length_cons, List.length_nil, Nat.reduceAdd, Nat.reduceMul, wN] | ((first | refine GW_region' [] (by kernel_rfl) ?_ | refine GW_draw' [] follows (by kernel_rfl) (by kernel_rfl) ?_); intro Q hQ hP; simp [hC, hY]; (first | refine hQ _ _ _ _ ?_ | refine hQ _ _ _ _ (by kernel_rfl) ?_ | refine hP _ _ (fun _ => ?_) | refine hP _ _ (by kernel_rfl) (fun _ => ?_)); clear hQ hP Q) | refine GW_block ?_ | refine GW_ret ?_ | refine GW_skip ?_ | refine GW_exit ?_ | refine GW_goto ?_ | refine GW_label ?_ | simp only [blockG_exit] | (refine GW_cond (by simp; rfl) ?_ ?_ <;> (intro hb; first | (exfalso; exact absurd hb (by decide)) | skip)))
    cases c0 : rightB st f n with
    | false =>
      have hE : drE st f n p q = 2 := by unfold drE; rw [c0]; rfl
      repeat' (first | refine GW_seq ?_ | simp only [List.length_cons, List.length_nil, Nat.reduceAdd, Nat.reduceMul, wN] | ((first | refine GW_region' [44] (by kernel_rfl) ?_ | refine GW_draw' [44] follows (by kernel_rfl) (by kernel_rfl) ?_); intro Q hQ hP; simp [hC, hY, hp, c0]; (repeat ((first | (refine heapK_mv (rig_fun b off n cap f h st hs) G0F (B := 200) (oneL_ok h.fx) (fun k => k) (fun k hk => rfl) (by simp [ren, renA, renF, ren0]) (by simp) (by simp [hr]) (by simp [keys]) (by simp [keys]; rfl) ?_)); try simp [hC, hY, hp, c0])); (first | refine hQ _ _ _ _ ?_ | refine hQ _ _ _ _ (by kernel_rfl) ?_ | refine hP _ _ (fun _ => ?_) | refine hP _ _ (by kernel_rfl) (fun _ => ?_)); clear hQ hP Q) | refine GW_block ?_ | refine GW_ret ?_ | refine GW_skip ?_ | refine GW_exit ?_ | refine GW_goto ?_ | refine GW_label ?_ | simp only [blockG_exit] | (refine GW_cond (by simp; rfl) ?_ ?_ <;> (intro hb; first | (exfalso; exact absurd hb (by decide)) | skip)))
      refine ⟨rfl, drSt b st off n cap c2 M2 g2 2, 0, weakL _ 600 hC G0F (m0 := [(100, b)]) hC0 (by omega) ?_ ?_ ?_, ⟨c2, M2, g2, 2, hE, by omega, rfl⟩⟩
      · simp [idsV, idsA, idsF, ids0, dom]
      · simp [stB', erB, ids_lit, idsF, ids0, hid, dom, Blk.fx_ids (fa_fx _ _ _)]
      · simp
    | true =>
      cases c1 : partB p q with
      | false =>
        have hE : drE st f n p q = 2 := by unfold drE; rw [c0, c1]; rfl
        repeat' (first | refine GW_seq ?_ | simp only [List.length_cons, List.length_nil, Nat.reduceAdd, Nat.reduceMul, wN] | ((first | refine GW_region' [44] (by kernel_rfl) ?_ | refine GW_draw' [44] follows (by kernel_rfl) (by kernel_rfl) ?_); intro Q hQ hP; simp [hC, hY, hp, c0, c1]; (repeat ((first | (refine heapK_mv (rig_fun b off n cap f h st hs) G0F (B := 200) (oneL_ok h.fx) (fun k => k) (fun k hk => rfl) (by simp [ren, renA, renF, ren0]) (by simp) (by simp [hr]) (by simp [keys]) (by simp [keys]; rfl) ?_)); try simp [hC, hY, hp, c0, c1])); (first | refine hQ _ _ _ _ ?_ | refine hQ _ _ _ _ (by kernel_rfl) ?_ | refine hP _ _ (fun _ => ?_) | refine hP _ _ (by kernel_rfl) (fun _ => ?_)); clear hQ hP Q) | refine GW_block ?_ | refine GW_ret ?_ | refine GW_skip ?_ | refine GW_exit ?_ | refine GW_goto ?_ | refine GW_label ?_ | simp only [blockG_exit] | (refine GW_cond (by simp; rfl) ?_ ?_ <;> (intro hb; first | (exfalso; exact absurd hb (by decide)) | skip)))
        refine ⟨rfl, drSt b st off n cap c2 M2 g2 2, 0, weakL _ 600 hC G0F (m0 := [(100, b)]) hC0 (by omega) ?_ ?_ ?_, ⟨c2, M2, g2, 2, hE, by omega, rfl⟩⟩
        · simp [idsV, idsA, idsF, ids0, dom]
        · simp [stB', erB, ids_lit, idsF, ids0, hid, dom, Blk.fx_ids (fa_fx _ _ _)]
        · simp
      | true =>
        repeat' (first | refine GW_seq ?_ | simp only [List.length_cons, List.length_nil, Nat.reduceAdd, Nat.reduceMul, wN] | ((first | refine GW_region' [44] (by kernel_rfl) ?_ | refine GW_draw' [44] follows (by kernel_rfl) (by kernel_rfl) ?_); intro Q hQ hP; simp [hC, hY, hp, c0, c1]; (repeat ((first | (refine heapK_mv (rig_fun b off n cap f h st hs) G0F (B := 200) (oneL_ok h.fx) (fun k => k) (fun k hk => rfl) (by simp [ren, renA, renF, ren0]) (by simp) (by simp [hr]) (by simp [keys]) (by simp [keys]; rfl) ?_)); try simp [hC, hY, hp, c0, c1])); (first | refine hQ _ _ _ _ ?_ | refine hQ _ _ _ _ (by kernel_rfl) ?_ | refine hP _ _ (fun _ => ?_) | refine hP _ _ (by kernel_rfl) (fun _ => ?_)); clear hQ hP Q) | refine GW_block ?_ | refine GW_ret ?_ | refine GW_skip ?_ | refine GW_exit ?_ | refine GW_goto ?_ | refine GW_label ?_ | simp only [blockG_exit] | (refine GW_cond (by simp; rfl) ?_ ?_ <;> (intro hb; first | (exfalso; exact absurd hb (by decide)) | skip)))
        refine GW_list ?_
        simp only [Array.toList]
        refine GL_walk 3 [] rfl (by simp) (by kernel_rfl) ?_; intro q hq; simp [hC, hY]; refine hq _ _ _ _ ?_; clear hq q
        simp only [wT, List.length_cons, List.length_nil, Nat.reduceAdd]
        refine GL_callL (f := .func 46) (cap := #[]) hC (ways_at 360 (by omega) b off n cap h.fx st p q) rfl (by simp) rfl rfl (by simp [okT]) (by simp [gev]) (by simp) (by simp [okX, junk]) (by simp [gev]) (by simp) (by (intro k hk; first | rfl | (simp (disch := omega) only [addB, List.mem_cons, List.not_mem_nil, or_false, upd_other, hpL_cons, hpL_nil, if_neg, updL] <;> done))) (fun v ns hV k hk => by have := wayR_key hV k hk; omega) ?_
        rintro v ns ⟨rfl, rfl⟩
        refine GL_nil ?_
        repeat' (first | refine GW_seq ?_ | simp only [List.length_cons, List.length_nil, Nat.reduceAdd, Nat.reduceMul, wN] | ((first | refine GW_region' [] (by kernel_rfl) ?_ | refine GW_draw' [] follows (by kernel_rfl) (by kernel_rfl) ?_); intro Q hQ hP; simp [hC, hY, putT, updL, wayNs]; (first | refine hQ _ _ _ _ ?_ | refine hQ _ _ _ _ (by kernel_rfl) ?_ | refine hP _ _ (fun _ => ?_) | refine hP _ _ (by kernel_rfl) (fun _ => ?_)); clear hQ hP Q) | refine GW_block ?_ | refine GW_ret ?_ | refine GW_skip ?_ | refine GW_exit ?_ | refine GW_goto ?_ | refine GW_label ?_ | simp only [blockG_exit] | (refine GW_cond (by simp; rfl) ?_ ?_ <;> (intro hb; first | (exfalso; exact absurd hb (by decide)) | skip)))
        simp only [putT, updL, wayNs, Nat.reduceAdd]
        obtain ⟨N, hN, hlt, hend⟩ := leadB (okB f p q) n
        refine GW_rangeKL (G := G0) (f := 80) (rs := [360, 363, 100, 361, 362]) (xs := dwXs f p q n) (caps := #[.pointer (some ⟨360, 0, none⟩), .pointer (some ⟨363, 0, none⟩)]) (m0 := [(100, b)]) [100, 200, 360, 361, 362, 363] G0F hC hC0 hY (by simp) ?_ ?_ (by simp [Tryd.ntmps21]) [(6, .pointer (some ⟨208, 0, none⟩)), (7, .pointer (some ⟨216, 0, none⟩)), (8, .pointer (some ⟨224, 0, none⟩))] [(3, .pointer (some ⟨200, 0, none⟩))] (drM st n c2 M2 g2 f p q) 400 N (by rw [dwXs_len]; exact hN) (by omega) (by simp) (by simp [dom]) ?_ (by simp) (by simp [idsV, idsA, idsF, ids0]) ?_ ?_ (by simp) ?_ ?_
        · refine iterk_mv (ways_it b off n cap f h st p q hp hq) G0F (wyL_ok h.fx st off n cap p q) (dnk 360 0) dnk_low (by simp [ren0, dnk]) (by simp [wyL, keys, dnk]) (by (intro k hk; first | rfl | (simp (disch := omega) only [addB, List.mem_cons, List.not_mem_nil, or_false, upd_other, hpL_cons, hpL_nil, if_neg, updL] <;> done))) ?_ ?_
          · simp [wyL, dnk, stB'_rn, fnB_rn, jb_rn, hr]
          · simp [wyL, keys, dnk]
        · intro x hx
          simp [dwXs] at hx
          obtain ⟨i, _, rfl⟩ := hx
          simp [dwA]
        · intro k hk bb hb
          simp only [List.mem_cons, List.not_mem_nil, or_false] at hk
          rcases hk with rfl | rfl | rfl | rfl | rfl | rfl
          · simp at hb; subst hb; exact hid _
          all_goals (simp at hb; subst hb; simp [ids_lit, idsF, ids0, stB', fnB, jb])
        · simp [drM, mvG_0, erB, jb, stB']
        · intro i hi
          simp [drM, idsV, idsA, idsF, ids0, dom, ids_lit, erB, jb, stB', Blk.fx_ids (fa_fx _ _ _)]
        · intro i x hi hx C1 l hC1 hh1 hY1
          have hin : i < n := by omega
          rw [dwXs_at _ _ _ _ _ hin] at hx
          simp only [Option.some.injEq] at hx
          subst hx
          clear hC hY
          have hC := hC1
          have hY := hY1
          unfold drM stB' erB dwA
          repeat' (first | refine GW_seq ?_ | simp only [List.length_cons, List.length_nil, Nat.reduceAdd, Nat.reduceMul, wN] | ((first | refine GW_region' [] (by kernel_rfl) ?_ | refine GW_draw' [] follows (by kernel_rfl) (by kernel_rfl) ?_); intro Q hQ hP; simp [hC, hY, roundTs]; (first | refine hQ _ _ _ _ ?_ | refine hQ _ _ _ _ (by kernel_rfl) ?_ | refine hP _ _ (fun _ => ?_) | refine hP _ _ (by kernel_rfl) (fun _ => ?_)); clear hQ hP Q) | refine GW_block ?_ | refine GW_ret ?_ | refine GW_skip ?_ | refine GW_exit ?_ | refine GW_goto ?_ | refine GW_label ?_ | simp only [blockG_exit] | (refine GW_cond (by simp; rfl) ?_ ?_ <;> (intro hb; first | (exfalso; exact absurd hb (by decide)) | skip)))
          intro C2 hC2 hh2 hY2
          clear hC hY
          have hC := hC2
          have hY := hY2
          have hi' : (i : Int) < n := by omega
          have hz : (0 : Int) ≤ i := by omega
          have hs : Int.bmod ((i : Int) + 1) 18446744073709551616 = ((i + 1 : Nat) : Int) := by rw [bm (by omega) (by omega)]; rfl
          have hl := row_vec (p := p) (q := q) h2 h3 hin
          have hx3 := (right_b c0 hin).1
          have hok := hlt i hi
          have he : eaE addI (f (6 * i)) (f (6 * i + 1)) (f (6 * i + 2)) (dwV f p q i 0) (dwV f p q i 1) (dwV f p q i 2) = 0 := by
            rcases eaE_or addI (f (6 * i)) (f (6 * i + 1)) (f (6 * i + 2)) (dwV f p q i 0) (dwV f p q i 1) (dwV f p q i 2) with e | e
            · exact e
            · have := ok_over hx3.1 hx3.2.1 hx3.2.2 e
              unfold okB at hok
              rw [this] at hok
              cases hok
          have hok' : inV 1048576 (addI (f (6 * i)) (dwV f p q i 0)) (addI (f (6 * i + 1)) (dwV f p q i 1)) (addI (f (6 * i + 2)) (dwV f p q i 2)) = true := hok
          have hw := inV_iff.1 hok'
          have w0 : i64 (addI (f (6 * i)) (dwV f p q i 0)) := by have := hw.1; unfold inW at this; exact ⟨by omega, by omega⟩
          have w1 : i64 (addI (f (6 * i + 1)) (dwV f p q i 1)) := by have := hw.2.1; unfold inW at this; exact ⟨by omega, by omega⟩
          have w2 : i64 (addI (f (6 * i + 2)) (dwV f p q i 2)) := by have := hw.2.2; unfold inW at this; exact ⟨by omega, by omega⟩
          have hM : i * 6 + 3 ≤ M2 := by omega
          repeat' (first | refine GW_seq ?_ | simp only [List.length_cons, List.length_nil, Nat.reduceAdd, Nat.reduceMul, wN] | ((first | refine GW_region' [] (by kernel_rfl) ?_ | refine GW_draw' [] follows (by kernel_rfl) (by kernel_rfl) ?_); intro Q hQ hP; simp [hC, hY, roundTs, jb, hi', hz, hs, hl, he, eaV_0, hok', w0, w1, w2, hM, i64_box]; (first | refine hQ _ _ _ _ ?_ | refine hQ _ _ _ _ (by kernel_rfl) ?_ | refine hP _ _ (fun _ => ?_) | refine hP _ _ (by kernel_rfl) (fun _ => ?_)); clear hQ hP Q) | refine GW_block ?_ | refine GW_ret ?_ | refine GW_skip ?_ | refine GW_exit ?_ | refine GW_goto ?_ | refine GW_label ?_ | simp only [blockG_exit] | (refine GW_cond (by simp; rfl) ?_ ?_ <;> (intro hb; first | (exfalso; exact absurd hb (by decide)) | skip)))
          have hput := put_row (g := g2) (f := f) (p := p) (q := q) h2 hin
          simp [hput, jb]
        · by_cases hNn : N = n
          · subst hNn
            left
            have hE : drE st f N p q = 0 := by
              unfold drE
              simp [c0, c1, drOk_iff.2 hlt]
            have hF : drF st f N p q = mvF f p q := by unfold drF; rw [if_pos hE]
            refine ⟨(dwXs_len _ _ _ _).symm, ?_⟩
            unfold drM stB' erB
            repeat' (first | refine GW_seq ?_ | simp only [List.length_cons, List.length_nil, Nat.reduceAdd, Nat.reduceMul, wN] | ((first | refine GW_region' [] (by kernel_rfl) ?_ | refine GW_draw' [] follows (by kernel_rfl) (by kernel_rfl) ?_); intro Q hQ hP; simp [hC, hY, addB, List.cons_append, List.nil_append]; (first | refine hQ _ _ _ _ ?_ | refine hQ _ _ _ _ (by kernel_rfl) ?_ | refine hP _ _ (fun _ => ?_) | refine hP _ _ (by kernel_rfl) (fun _ => ?_)); clear hQ hP Q) | refine GW_block ?_ | refine GW_ret ?_ | refine GW_skip ?_ | refine GW_exit ?_ | refine GW_goto ?_ | refine GW_label ?_ | simp only [blockG_exit] | (refine GW_cond (by simp; rfl) ?_ ?_ <;> (intro hb; first | (exfalso; exact absurd hb (by decide)) | skip)))
            rw [hE, hF]
            refine ⟨.inr trivial, keep_of G0F (by simp [addB]) (by (intro k hk; first | rfl | (simp (disch := omega) only [addB, List.mem_cons, List.not_mem_nil, or_false, upd_other, hpL_cons, hpL_nil, if_neg, updL] <;> done))), _, _, fun k => if k = 1000 then 248 else k, ⟨_, ⟨c2, M2, mvG g2 f p q N, h1, h2, fun j hj => mvG_end hj h3, rfl, rfl⟩, rfl⟩, fun k hk => if_neg (by omega), by simp, by simp, ?_, ?_⟩
            · simp [Tryd.results21, ren, renA, renF, ren0, addB]
            · simp [fa_rn, addB]
          · right
            have hin : N < n := by omega
            have hok := hend.resolve_left hNn
            have hE : drE st f n p q = 20 := by
              unfold drE
              simp [c0, c1, drOk_f hin hok]
            refine ⟨_, dwXs_at _ _ _ _ _ hin, ?_⟩
            intro C1 l hC1 hh1 hY1
            have hCC := hC
            clear hC hY
            have hC := hC1
            have hY := hY1
            unfold drM stB' erB dwA
            repeat' (first | refine GW_seq ?_ | simp only [List.length_cons, List.length_nil, Nat.reduceAdd, Nat.reduceMul, wN] | ((first | refine GW_region' [] (by kernel_rfl) ?_ | refine GW_draw' [] follows (by kernel_rfl) (by kernel_rfl) ?_); intro Q hQ hP; simp [hC, hY, roundTs]; (first | refine hQ _ _ _ _ ?_ | refine hQ _ _ _ _ (by kernel_rfl) ?_ | refine hP _ _ (fun _ => ?_) | refine hP _ _ (by kernel_rfl) (fun _ => ?_)); clear hQ hP Q) | refine GW_block ?_ | refine GW_ret ?_ | refine GW_skip ?_ | refine GW_exit ?_ | refine GW_goto ?_ | refine GW_label ?_ | simp only [blockG_exit] | (refine GW_cond (by simp; rfl) ?_ ?_ <;> (intro hb; first | (exfalso; exact absurd hb (by decide)) | skip)))
            intro C2 hC2 hh2 hY2
            clear hC hY
            have hC := hC2
            have hY := hY2
            have hi' : (N : Int) < n := by omega
            have hz : (0 : Int) ≤ N := by omega
            have hl := row_vec (p := p) (q := q) h2 h3 hin
            have hx3 := (right_b c0 hin).1
            have hM : N * 6 + 3 ≤ M2 := by omega
            rcases eaE_or addI (f (6 * N)) (f (6 * N + 1)) (f (6 * N + 2)) (dwV f p q N 0) (dwV f p q N 1) (dwV f p q N 2) with he | he
            · have hfn := he
              have hok' : inV 1048576 (addI (f (6 * N)) (dwV f p q N 0)) (addI (f (6 * N + 1)) (dwV f p q N 1)) (addI (f (6 * N + 2)) (dwV f p q N 2)) = false := hok
              have hw := ea_in he
              have w0 := hw.1
              have w1 := hw.2.1
              have w2 := hw.2.2
              repeat' (first | refine GW_seq ?_ | simp only [List.length_cons, List.length_nil, Nat.reduceAdd, Nat.reduceMul, wN] | ((first | refine GW_region' [] (by kernel_rfl) ?_ | refine GW_draw' [] follows (by kernel_rfl) (by kernel_rfl) ?_); intro Q hQ hP; simp [hC, hY, roundTs, jb, hi', hz, hl, he, eaV_0, hok', w0, w1, w2, hM, i64_box]; (first | refine hQ _ _ _ _ ?_ | refine hQ _ _ _ _ (by kernel_rfl) ?_ | refine hP _ _ (fun _ => ?_) | refine hP _ _ (by kernel_rfl) (fun _ => ?_)); clear hQ hP Q) | refine GW_block ?_ | refine GW_ret ?_ | refine GW_skip ?_ | refine GW_exit ?_ | refine GW_goto ?_ | refine GW_label ?_ | simp only [blockG_exit] | (refine GW_cond (by simp; rfl) ?_ ?_ <;> (intro hb; first | (exfalso; exact absurd hb (by decide)) | skip)))
              refine ⟨by simp [outCode], by simp [idsV, idsA, idsF, ids0, dom], by simp, rfl, drSt b st off n cap c2 M2 (mvG g2 f p q N) 20, 0, weakL _ 600 hCC G0F (m0 := [(100, b)]) hC0 (by omega) ?_ ?_ ?_, ⟨c2, M2, mvG g2 f p q N, 20, hE, by omega, rfl⟩⟩
              · simp [idsV, idsA, idsF, ids0, dom, addB]
              · simp [stB', erB, ids_lit, idsF, ids0, hid, dom, addB, Blk.fx_ids (fa_fx _ _ _)]
              · simp [addB]
            ·
              repeat' (first | refine GW_seq ?_ | simp only [List.length_cons, List.length_nil, Nat.reduceAdd, Nat.reduceMul, wN] | ((first | refine GW_region' [] (by kernel_rfl) ?_ | refine GW_draw' [] follows (by kernel_rfl) (by kernel_rfl) ?_); intro Q hQ hP; simp [hC, hY, roundTs, jb, hi', hz, hl, he, eaV_0, hM, i64_box]; (first | refine hQ _ _ _ _ ?_ | refine hQ _ _ _ _ (by kernel_rfl) ?_ | refine hP _ _ (fun _ => ?_) | refine hP _ _ (by kernel_rfl) (fun _ => ?_)); clear hQ hP Q) | refine GW_block ?_ | refine GW_ret ?_ | refine GW_skip ?_ | refine GW_exit ?_ | refine GW_goto ?_ | refine GW_label ?_ | simp only [blockG_exit] | (refine GW_cond (by simp; rfl) ?_ ?_ <;> (intro hb; first | (exfalso; exact absurd hb (by decide)) | skip)))
              refine ⟨by simp [outCode], by simp [idsV, idsA, idsF, ids0, dom], by simp, rfl, drSt b st off n cap c2 M2 (mvG g2 f p q N) 20, 0, weakL _ 600 hCC G0F (m0 := [(100, b)]) hC0 (by omega) ?_ ?_ ?_, ⟨c2, M2, mvG g2 f p q N, 20, hE, by omega, rfl⟩⟩
              · simp [idsV, idsA, idsF, ids0, dom, addB]
              · simp [stB', erB, ids_lit, idsF, ids0, hid, dom, addB, Blk.fx_ids (fa_fx _ _ _)]
              · simp [addB]
end Go.Gy
