/-
  Lemmas of this claim, in their order (GyNA, GyRC, GyRF, GyQB, GyDB, GyDC, GyWA, GyWB, GyLB, GyWC, GyWD, GyWE, GyWF, GyWG, GyWH, GyWK, GyLC, GyWL, GyWM, GyNB, GyNC, GyNI, GyNO, GyCA).
  Conditions: those of each theorem.
-/
import Derived.Test.YtlageemaenplfaaDoorGz04
namespace Go.Gy
set_option linter.unusedSimpArgs false
set_option linter.unusedVariables false
open Go Go.RowKit Go.Proofs
theorem sub1_ret (x y : Int) : Ret Tryd.prog G0 67 #[.int .i64 x, .int .i64 y] (.int .i64 (Int.bmod (x - y) 18446744073709551616)) := by
  refine ret_of G0F Tryd.func67 rfl Tryd.call67 (by simp) (by simp) (by simp [Tryd.ntmps67]) ?_
  intro C hC hC0 hY
  repeat' (first | refine gwS ?_ | simp only [wN, wM, Nat.reduceAdd, Nat.reduceMul] | ((first | refine gwR [] ?_ | refine gwD [] ?_); intro Q hQ hP; simp [hC, hY]; (first | refine hQ _ _ _ _ (by kernel_rfl) ?_ | refine hP _ _ (by kernel_rfl) fun _ => ?_); clear hQ hP Q) | refine gwB ?_ | refine gwT ?_ | refine gwK ?_ | refine gwE ?_ | refine gwG ?_ | refine gwL ?_ | simp only [blockG_exit] | (refine gwC ?_ ?_ <;> (intro hb; first | (cases hb; done) | skip)))
  refine ⟨.inr trivial, ?_⟩
  simp [Tryd.results67]
@[simp] theorem vsub1 (x y : Int) (K : Value → Prop) : callK Tryd.prog G0 67 #[.int .i64 x, .int .i64 y] K ↔ K (.int .i64 (Int.bmod (x - y) 18446744073709551616)) := callK_iff G0W (by kernel_rfl) (sub1_ret x y)
def subI (a b : Int) : Int := a - b
theorem fn_bs {a b : Int} (h1 : fnI a) (h2 : fnI b) : Int.bmod (a - b) 18446744073709551616 = a - b := by
  obtain ⟨h1, h3⟩ := h1
  obtain ⟨h2, h4⟩ := h2
  exact bm (by omega) (by omega)
theorem sub_ret (a0 a1 a2 b0 b1 b2 : Int) : Ret Tryd.prog G0 56 #[.agg #[.int .i64 a0, .int .i64 a1, .int .i64 a2], .agg #[.int .i64 b0, .int .i64 b1, .int .i64 b2]]
    (.tuple #[.agg #[.int .i64 (eaV (eaE subI a0 a1 a2 b0 b1 b2) (subI a0 b0)), .int .i64 (eaV (eaE subI a0 a1 a2 b0 b1 b2) (subI a1 b1)), .int .i64 (eaV (eaE subI a0 a1 a2 b0 b1 b2) (subI a2 b2))], .int .i64 (eaE subI a0 a1 a2 b0 b1 b2)]) := by
  refine ret_of G0F Tryd.func56 rfl Tryd.call56 (by simp) (by simp) (by simp [Tryd.ntmps56]) ?_
  intro C hC hC0 hY
  have he := fun K => veach 67 subI (fun x y K hx hy => by rw [vsub1, fn_bs hx hy]; rfl) a0 a1 a2 b0 b1 b2 K
  repeat' (first | refine gwS ?_ | simp only [wN, wM, Nat.reduceAdd, Nat.reduceMul] | ((first | refine gwR [] ?_ | refine gwD [] ?_); intro Q hQ hP; simp [hC, hY, he]; (first | refine hQ _ _ _ _ (by kernel_rfl) ?_ | refine hP _ _ (by kernel_rfl) fun _ => ?_); clear hQ hP Q) | refine gwB ?_ | refine gwT ?_ | refine gwK ?_ | refine gwE ?_ | refine gwG ?_ | refine gwL ?_ | simp only [blockG_exit] | (refine gwC ?_ ?_ <;> (intro hb; first | (cases hb; done) | skip)))
  refine ⟨.inr trivial, ?_⟩
  simp [Tryd.results56]
@[simp] theorem vsub (a0 a1 a2 b0 b1 b2 : Int) (K : Value → Prop) : callK Tryd.prog G0 56 #[.agg #[.int .i64 a0, .int .i64 a1, .int .i64 a2], .agg #[.int .i64 b0, .int .i64 b1, .int .i64 b2]] K ↔
    K (.tuple #[.agg #[.int .i64 (eaV (eaE subI a0 a1 a2 b0 b1 b2) (subI a0 b0)), .int .i64 (eaV (eaE subI a0 a1 a2 b0 b1 b2) (subI a1 b1)), .int .i64 (eaV (eaE subI a0 a1 a2 b0 b1 b2) (subI a2 b2))], .int .i64 (eaE subI a0 a1 a2 b0 b1 b2)]) := callK_iff G0W (by kernel_rfl) (sub_ret a0 a1 a2 b0 b1 b2)
def dtE (a0 a1 a2 b0 b1 b2 : Int) : Int := if (fnI a0 ∧ fnI a1 ∧ fnI a2) ∧ fnI b0 ∧ fnI b1 ∧ fnI b2 then 0 else 20
def dtV (a0 a1 a2 b0 b1 b2 : Int) : Int := if (fnI a0 ∧ fnI a1 ∧ fnI a2) ∧ fnI b0 ∧ fnI b1 ∧ fnI b2 then a0 * b0 + a1 * b1 + a2 * b2 else 0
theorem fn_mul {a b : Int} (h1 : fnI a) (h2 : fnI b) : -288230376151711744 ≤ a * b ∧ a * b ≤ 288230376151711744 := by
  obtain ⟨h1, h3⟩ := h1
  obtain ⟨h2, h4⟩ := h2
  have h5 : (a * b).natAbs ≤ 536870912 * 536870912 := by
    rw [Int.natAbs_mul]
    exact Nat.mul_le_mul (by omega) (by omega)
  omega
def dtS (a0 a1 a2 b0 b1 b2 : Int) : Nat → Int
  | 0 => 0
  | 1 => a0 * b0
  | 2 => a0 * b0 + a1 * b1
  | _ => a0 * b0 + a1 * b1 + a2 * b2
def dtL (a0 a1 a2 b0 b1 b2 : Int) (i : Nat) : List (Nat × Blk) := [(200, ⟨#[.int .i64 a0, .int .i64 a1, .int .i64 a2], .ty 40⟩), (208, ⟨#[.int .i64 b0, .int .i64 b1, .int .i64 b2], .ty 40⟩), (216, jb (dtS a0 a1 a2 b0 b1 b2 i))]
set_option maxRecDepth 8000 in
theorem dot_ret (a0 a1 a2 b0 b1 b2 : Int) : Ret Tryd.prog G0 57 #[.agg #[.int .i64 a0, .int .i64 a1, .int .i64 a2], .agg #[.int .i64 b0, .int .i64 b1, .int .i64 b2]]
    (.tuple #[.int .i64 (dtV a0 a1 a2 b0 b1 b2), .int .i64 (dtE a0 a1 a2 b0 b1 b2)]) := by
  refine ret_of G0F Tryd.func57 rfl Tryd.call57 (by simp) (by simp) (by simp [Tryd.ntmps57]) ?_
  intro C hC hC0 hY
  obtain ⟨v, hv⟩ : ∃ v : Bool, v = true ↔ (fnI a0 ∧ fnI a1 ∧ fnI a2) ∧ fnI b0 ∧ fnI b1 ∧ fnI b2 := ⟨decide _, decide_eq_true_iff⟩
  cases v with
  | false =>
    have e : dtE a0 a1 a2 b0 b1 b2 = 20 := by unfold dtE; rw [if_neg]; intro h; exact absurd (hv.2 h) (by simp)
    have e2 : dtV a0 a1 a2 b0 b1 b2 = 0 := by unfold dtV; rw [if_neg]; intro h; exact absurd (hv.2 h) (by simp)
    rw [e, e2]
    repeat' (first | refine gwS ?_ | simp only [wN, wM, Nat.reduceAdd, Nat.reduceMul] | ((first | refine gwR [65] ?_ | refine gwD [65] ?_); intro Q hQ hP; simp [hC, hY]; (repeat ((first | (refine heapK_mv (fine2_fun a0 a1 a2 b0 b1 b2 _ hv) G0F (B := 200) ⟨by simp, by simp [keys], by simp [ids_lit, idsF, ids0]⟩ (fun k => if k = 100 then 248 else k) (fun k hk => if_neg (by omega)) (by simp [ren, renA, renF, ren0]) (by simp) (by simp [Blk.rn, renF, ren0]) (by simp [keys]) (by simp [keys]; rfl) ?_)); try simp [hC, hY])); (first | refine hQ _ _ _ _ (by kernel_rfl) ?_ | refine hP _ _ (by kernel_rfl) fun _ => ?_); clear hQ hP Q) | refine gwB ?_ | refine gwT ?_ | refine gwK ?_ | refine gwE ?_ | refine gwG ?_ | refine gwL ?_ | simp only [blockG_exit] | (refine gwC ?_ ?_ <;> (intro hb; first | (cases hb; done) | skip)))
    refine ⟨.inr trivial, ?_⟩
    simp [Tryd.results57]
  | true =>
    have e : dtE a0 a1 a2 b0 b1 b2 = 0 := by unfold dtE; rw [if_pos]; exact hv.1 rfl
    have e2 : dtV a0 a1 a2 b0 b1 b2 = a0 * b0 + a1 * b1 + a2 * b2 := by unfold dtV; rw [if_pos]; exact hv.1 rfl
    rw [e, e2]
    repeat' (first | refine gwS ?_ | simp only [wN, wM, Nat.reduceAdd, Nat.reduceMul] | ((first | refine gwR [65,66] ?_ | refine gwD [65,66] ?_); intro Q hQ hP; simp [hC, hY]; (repeat ((first | (first | (refine heapK_mv (fine2_fun a0 a1 a2 b0 b1 b2 _ hv) G0F (B := 200) ⟨by simp, by simp [keys], by simp [ids_lit, idsF, ids0]⟩ (fun k => if k = 100 then 248 else k) (fun k hk => if_neg (by omega)) (by simp [ren, renA, renF, ren0]) (by simp) (by simp [Blk.rn, renF, ren0]) (by simp [keys]) (by simp [keys]; rfl) ?_) | refine heapK_of (vparts_new 280 288 1 1 #[.int .i64 a0, .int .i64 a1, .int .i64 a2] (by simp) (by omega) (by omega) (by omega) (by omega)) (by simp) (fun k hk => hpL_low (by simp) hk) (by simp [Res.at, keys]) ?_)); try simp [hC, hY])); (first | refine hQ _ _ _ _ (by kernel_rfl) ?_ | refine hP _ _ (by kernel_rfl) fun _ => ?_); clear hQ hP Q) | refine gwB ?_ | refine gwT ?_ | refine gwK ?_ | refine gwE ?_ | refine gwG ?_ | refine gwL ?_ | simp only [blockG_exit] | (refine gwC ?_ ?_ <;> (intro hb; first | (cases hb; done) | skip)))
    obtain ⟨⟨f0, f1, f2⟩, g0, g1, g2⟩ := hv.1 rfl
    have m0 := fn_mul f0 g0
    have m1 := fn_mul f1 g1
    have m2 := fn_mul f2 g2
    have s0 : Int.bmod (a0 * b0) 18446744073709551616 = a0 * b0 := bm (by omega) (by omega)
    have s1 : Int.bmod (a1 * b1) 18446744073709551616 = a1 * b1 := bm (by omega) (by omega)
    have s2 : Int.bmod (a2 * b2) 18446744073709551616 = a2 * b2 := bm (by omega) (by omega)
    have s3 : Int.bmod (a0 * b0 + a1 * b1) 18446744073709551616 = a0 * b0 + a1 * b1 := bm (by omega) (by omega)
    have s4 : Int.bmod (a0 * b0 + a1 * b1 + a2 * b2) 18446744073709551616 = a0 * b0 + a1 * b1 + a2 * b2 := bm (by omega) (by omega)
    refine GW_rangeKL (G := G0) (f := 83) (rs := [288, 280]) (xs := xsV 3 (vf a0 a1 a2)) (caps := #[.pointer (some ⟨288, 0, none⟩)]) (m0 := []) [288, 280] G0F hC hC0 hY (by simp) ?_ (by simp [xsV]) (by simp [Tryd.ntmps57]) [(2, .pointer (some ⟨200, 0, none⟩)), (3, .pointer (some ⟨208, 0, none⟩)), (4, .pointer (some ⟨216, 0, none⟩)), (5, .int .i64 0)] [] (dtL a0 a1 a2 b0 b1 b2) 400 3 (by simp [xsV]) (by omega) (by simp) (by simp [dom]) ?_ (by simp) (by simp) (by simp [dtL, dtS, jb]) ?_ (by simp) ?_ ?_
    · refine iterk_mv (m := pvL1 a0 a1 a2) (B := 200) (vparts1_itk a0 a1 a2) G0F ⟨by simp [pvL1], by simp [pvL1, keys], by simp [pvL1, ids_lit, idsF, ids0, keys]⟩ (fun k => if k = 100 then 288 else if k = 108 then 280 else k) (fun k hk => ?_) (by simp [ren0]) (by simp [pvL1, keys]) (by (intro k hk; first | rfl | (simp (disch := omega) only [addB, List.mem_cons, List.not_mem_nil, or_false, upd_other, hpL_cons, hpL_nil, if_neg, updL] <;> done))) ?_ ?_
      · rw [if_neg (by omega), if_neg (by omega)]
      · simp [pvL1, Blk.rn, renF, ren0]
      · simp [pvL1, keys]
    · intro k hk b hb
      simp only [List.mem_cons, List.not_mem_nil, or_false] at hk
      rcases hk with rfl | rfl
      · simp at hb; subst hb; simp [ids_lit, idsF, ids0]
      · simp at hb; subst hb; simp [ids_lit, idsF, ids0]
    · intro i hi
      simp [dtL, jb, idsV, idsA, idsF, ids0, dom, ids_lit]
    · intro i x hi hx C1 l hC1 hh1 hY1
      rw [xsV_at _ _ _ (by omega)] at hx
      simp only [Option.some.injEq] at hx
      subst hx
      clear hC hY
      have hC := hC1
      have hY := hY1
      have : i = 0 ∨ i = 1 ∨ i = 2 := by omega
      rcases this with rfl | rfl | rfl
      all_goals
        simp only [vf]
        unfold dtL
      all_goals
        repeat' (first | refine gwS ?_ | simp only [wN, wM, Nat.reduceAdd, Nat.reduceMul] | ((first | refine gwR [] ?_ | refine gwD [] ?_); intro Q hQ hP; simp [hC, hY, roundTs, dtS, jb]; (first | refine hQ _ _ _ _ (by kernel_rfl) ?_ | refine hP _ _ (by kernel_rfl) fun _ => ?_); clear hQ hP Q) | refine gwB ?_ | refine gwT ?_ | refine gwK ?_ | refine gwE ?_ | refine gwG ?_ | refine gwL ?_ | simp only [blockG_exit] | (refine gwC ?_ ?_ <;> (intro hb; first | (cases hb; done) | skip)))
      all_goals
        intro C2 hC2 hh2 hY2
        clear hC hY
        have hC := hC2
        have hY := hY2
        repeat' (first | refine gwS ?_ | simp only [wN, wM, Nat.reduceAdd, Nat.reduceMul] | ((first | refine gwR [] ?_ | refine gwD [] ?_); intro Q hQ hP; simp [hC, hY, roundTs, s0, s1, s2, s3, s4, dtS, jb]; (first | refine hQ _ _ _ _ (by kernel_rfl) ?_ | refine hP _ _ (by kernel_rfl) fun _ => ?_); clear hQ hP Q) | refine gwB ?_ | refine gwT ?_ | refine gwK ?_ | refine gwE ?_ | refine gwG ?_ | refine gwL ?_ | simp only [blockG_exit] | (refine gwC ?_ ?_ <;> (intro hb; first | (cases hb; done) | skip)))
      all_goals simp [dtS, jb, s0, s1, s2, s3, s4]
    · left
      refine ⟨by simp [xsV], ?_⟩
      unfold dtL
      repeat' (first | refine gwS ?_ | simp only [wN, wM, Nat.reduceAdd, Nat.reduceMul] | ((first | refine gwR [] ?_ | refine gwD [] ?_); intro Q hQ hP; simp [hC, hY, addB, List.cons_append, List.nil_append, dtS, jb]; (first | refine hQ _ _ _ _ (by kernel_rfl) ?_ | refine hP _ _ (by kernel_rfl) fun _ => ?_); clear hQ hP Q) | refine gwB ?_ | refine gwT ?_ | refine gwK ?_ | refine gwE ?_ | refine gwG ?_ | refine gwL ?_ | simp only [blockG_exit] | (refine gwC ?_ ?_ <;> (intro hb; first | (cases hb; done) | skip)))
      refine ⟨.inr trivial, ?_⟩
      simp [Tryd.results57]
@[simp] theorem vdot (a0 a1 a2 b0 b1 b2 : Int) (K : Value → Prop) : callK Tryd.prog G0 57 #[.agg #[.int .i64 a0, .int .i64 a1, .int .i64 a2], .agg #[.int .i64 b0, .int .i64 b1, .int .i64 b2]] K ↔ K (.tuple #[.int .i64 (dtV a0 a1 a2 b0 b1 b2), .int .i64 (dtE a0 a1 a2 b0 b1 b2)]) := callK_iff G0W (by kernel_rfl) (dot_ret a0 a1 a2 b0 b1 b2)
def f2E (a0 a1 a2 b0 b1 b2 : Int) : Int := eaE subI a0 a1 a2 b0 b1 b2
def f2V (a0 a1 a2 b0 b1 b2 : Int) : Int := if f2E a0 a1 a2 b0 b1 b2 = 0 then (a0 - b0) * (a0 - b0) + (a1 - b1) * (a1 - b1) + (a2 - b2) * (a2 - b2) else 0
theorem far2_ret (a0 a1 a2 b0 b1 b2 : Int) : Ret Tryd.prog G0 42 #[.agg #[.int .i64 a0, .int .i64 a1, .int .i64 a2], .agg #[.int .i64 b0, .int .i64 b1, .int .i64 b2]]
    (.tuple #[.int .i64 (f2V a0 a1 a2 b0 b1 b2), .int .i64 (f2E a0 a1 a2 b0 b1 b2)]) := by
  refine ret_of G0F Tryd.func42 rfl Tryd.call42 (by simp) (by simp) (by simp [Tryd.ntmps42]) ?_
  intro C hC hC0 hY
  have eV0 : ∀ z, eaV 0 z = z := fun z => by simp [eaV]
  by_cases h : ((fnI a0 ∧ fnI a1 ∧ fnI a2) ∧ fnI b0 ∧ fnI b1 ∧ fnI b2) ∧ fnI (subI a0 b0) ∧ fnI (subI a1 b1) ∧ fnI (subI a2 b2)
  · have he : eaE subI a0 a1 a2 b0 b1 b2 = 0 := by unfold eaE; rw [if_pos h]
    have hd : dtE (subI a0 b0) (subI a1 b1) (subI a2 b2) (subI a0 b0) (subI a1 b1) (subI a2 b2) = 0 := by unfold dtE; rw [if_pos ⟨h.2, h.2⟩]
    have hv : dtV (subI a0 b0) (subI a1 b1) (subI a2 b2) (subI a0 b0) (subI a1 b1) (subI a2 b2) = f2V a0 a1 a2 b0 b1 b2 := by unfold dtV f2V f2E; rw [if_pos ⟨h.2, h.2⟩, he, if_pos rfl]; rfl
    have hF : f2E a0 a1 a2 b0 b1 b2 = 0 := he
    rw [hF]
    repeat' (first | refine gwS ?_ | simp only [wN, wM, Nat.reduceAdd, Nat.reduceMul] | ((first | refine gwR [] ?_ | refine gwD [] ?_); intro Q hQ hP; simp [hC, hY, he, eV0, hd, hv]; (first | refine hQ _ _ _ _ (by kernel_rfl) ?_ | refine hP _ _ (by kernel_rfl) fun _ => ?_); clear hQ hP Q) | refine gwB ?_ | refine gwT ?_ | refine gwK ?_ | refine gwE ?_ | refine gwG ?_ | refine gwL ?_ | simp only [blockG_exit] | (refine gwC ?_ ?_ <;> (intro hb; first | (cases hb; done) | skip)))
    refine ⟨.inr trivial, ?_⟩
    simp [Tryd.results42]
  · have he : eaE subI a0 a1 a2 b0 b1 b2 = 20 := by unfold eaE; rw [if_neg h]
    have hF : f2E a0 a1 a2 b0 b1 b2 = 20 := he
    have hv : f2V a0 a1 a2 b0 b1 b2 = 0 := by unfold f2V; rw [hF, if_neg (by omega)]
    rw [hF, hv]
    repeat' (first | refine gwS ?_ | simp only [wN, wM, Nat.reduceAdd, Nat.reduceMul] | ((first | refine gwR [] ?_ | refine gwD [] ?_); intro Q hQ hP; simp [hC, hY, he]; (first | refine hQ _ _ _ _ (by kernel_rfl) ?_ | refine hP _ _ (by kernel_rfl) fun _ => ?_); clear hQ hP Q) | refine gwB ?_ | refine gwT ?_ | refine gwK ?_ | refine gwE ?_ | refine gwG ?_ | refine gwL ?_ | simp only [blockG_exit] | (refine gwC ?_ ?_ <;> (intro hb; first | (cases hb; done) | skip)))
    refine ⟨.inr trivial, ?_⟩
    simp [Tryd.results42]
@[simp] theorem vfar2 (a0 a1 a2 b0 b1 b2 : Int) (K : Value → Prop) : callK Tryd.prog G0 42 #[.agg #[.int .i64 a0, .int .i64 a1, .int .i64 a2], .agg #[.int .i64 b0, .int .i64 b1, .int .i64 b2]] K ↔ K (.tuple #[.int .i64 (f2V a0 a1 a2 b0 b1 b2), .int .i64 (f2E a0 a1 a2 b0 b1 b2)]) := callK_iff G0W (by kernel_rfl) (far2_ret a0 a1 a2 b0 b1 b2)
end Go.Gy
namespace Go.Gy
set_option linter.unusedSimpArgs false
set_option linter.unusedVariables false
open Go Go.RowKit Go.Proofs
end Go.Gy
namespace Go.Gy
set_option linter.unusedSimpArgs false
set_option linter.unusedVariables false
open Go Go.RowKit Go.Proofs
end Go.Gy
namespace Go.Gy
set_option linter.unusedSimpArgs false
set_option linter.unusedVariables false
open Go Go.RowKit Go.Proofs
structure SB (b : Blk) (off n : Nat) (f : Nat → Int) : Prop where
  rd : rdI b off (6 * n) f
  fx : b.fx
  i6 : ∀ j, j < 6 * n → i64 (f j)
  nn : n ≤ 2932031007402
def inB (bx tp : Int) (f : Nat → Int) (i : Nat) : Bool := inV bx (f (6 * i)) (f (6 * i + 1)) (f (6 * i + 2)) && inV tp (f (6 * i + 3)) (f (6 * i + 4)) (f (6 * i + 5))
theorem SB.body {b : Blk} {off n : Nat} {f : Nat → Int} (h : SB b off n f) {i : Nat} (hi : i < n) : loadK Tryd.prog 42 b (off + i * 6) = some (.agg #[.int .i64 (f (6 * i)), .int .i64 (f (6 * i + 1)), .int .i64 (f (6 * i + 2)), .int .i64 (f (6 * i + 3)), .int .i64 (f (6 * i + 4)), .int .i64 (f (6 * i + 5))]) := by
  have hbrd := Blk.fx_rd h.fx
  have := loadK_rd (P := Tryd.prog) (T := 42) (m := 6) (j := 6 * i) (tyAgg_of Tryd.isAgg42) (tySize_of Tryd.sizeOf42) (by omega) h.rd (by omega)
  rw [show off + i * 6 = off + 6 * i by omega, this, fa_6]
  rfl
theorem SB.i {b : Blk} {off n : Nat} {f : Nat → Int} (h : SB b off n f) {i : Nat} (hi : i < n) (q : Nat) (hq : q < 6) : i64 (f (6 * i + q)) := h.i6 _ (by omega)
theorem wi1_fun (bx tp x0 x1 x2 v0 v1 v2 : Int) (hbx : i64 bx) (htp : i64 tp) (h0 : i64 x0) (h1 : i64 x1) (h2 : i64 x2) (h3 : i64 v0) (h4 : i64 v1) (h5 : i64 v2) :
    Fun Tryd.prog G0 63 #[.agg #[.int .i64 x0, .int .i64 x1, .int .i64 x2, .int .i64 v0, .int .i64 v1, .int .i64 v2], .pointer (some ⟨100, 0, none⟩), .pointer (some ⟨108, 0, none⟩)] (hpL G0 [(100, jb bx), (108, jb tp)]) (keys [(100, jb bx), (108, jb tp)]) (.ret (.bool !(inV bx x0 x1 x2 && inV tp v0 v1 v2)) []) := by
  refine fun_ofL (B := 200) G0F Tryd.func63 rfl Tryd.call63 ⟨by simp, by simp [keys], by simp [jb, ids_lit, idsF, ids0]⟩ ?_ (by simp) (by simp) (by simp) (by simp [Tryd.ntmps63]) (by omega) ?_
  · simp [idsV, idsA, idsF, ids0, keys]
  intro C hC hC0 hY
  cases c0 : inV bx x0 x1 x2 with
  | true =>
    cases c1 : inV tp v0 v1 v2 with
    | true =>
      repeat' (first | refine gwS ?_ | simp only [wN, wM, Nat.reduceAdd, Nat.reduceMul] | ((first | refine gwR [] ?_ | refine gwD [] ?_); intro Q hQ hP; simp [hC, hY, jb, hbx, htp, h0, h1, h2, h3, h4, h5, c0, c1]; (first | refine hQ _ _ _ _ (by kernel_rfl) ?_ | refine hP _ _ (by kernel_rfl) fun _ => ?_); clear hQ hP Q) | refine gwB ?_ | refine gwT ?_ | refine gwK ?_ | refine gwE ?_ | refine gwG ?_ | refine gwL ?_ | simp only [blockG_exit] | (refine gwC ?_ ?_ <;> (intro hb; first | (cases hb; done) | skip)))
      refine ⟨.inr rfl, by simp [Tryd.results63], keep_of G0F (by simp [jb]) (by (intro k hk; first | rfl | (simp (disch := omega) only [addB, List.mem_cons, List.not_mem_nil, or_false, upd_other, hpL_cons, hpL_nil, if_neg, updL] <;> done)))⟩
    | false =>
      repeat' (first | refine gwS ?_ | simp only [wN, wM, Nat.reduceAdd, Nat.reduceMul] | ((first | refine gwR [] ?_ | refine gwD [] ?_); intro Q hQ hP; simp [hC, hY, jb, hbx, htp, h0, h1, h2, h3, h4, h5, c0, c1]; (first | refine hQ _ _ _ _ (by kernel_rfl) ?_ | refine hP _ _ (by kernel_rfl) fun _ => ?_); clear hQ hP Q) | refine gwB ?_ | refine gwT ?_ | refine gwK ?_ | refine gwE ?_ | refine gwG ?_ | refine gwL ?_ | simp only [blockG_exit] | (refine gwC ?_ ?_ <;> (intro hb; first | (cases hb; done) | skip)))
      refine ⟨.inr rfl, by simp [Tryd.results63], keep_of G0F (by simp [jb]) (by (intro k hk; first | rfl | (simp (disch := omega) only [addB, List.mem_cons, List.not_mem_nil, or_false, upd_other, hpL_cons, hpL_nil, if_neg, updL] <;> done)))⟩
  | false =>
    repeat' (first | refine gwS ?_ | simp only [wN, wM, Nat.reduceAdd, Nat.reduceMul] | ((first | refine gwR [] ?_ | refine gwD [] ?_); intro Q hQ hP; simp [hC, hY, jb, hbx, htp, h0, h1, h2, h3, h4, h5, c0]; (first | refine hQ _ _ _ _ (by kernel_rfl) ?_ | refine hP _ _ (by kernel_rfl) fun _ => ?_); clear hQ hP Q) | refine gwB ?_ | refine gwT ?_ | refine gwK ?_ | refine gwE ?_ | refine gwG ?_ | refine gwL ?_ | simp only [blockG_exit] | (refine gwC ?_ ?_ <;> (intro hb; first | (cases hb; done) | skip)))
    refine ⟨.inr rfl, by simp [Tryd.results63], keep_of G0F (by simp [jb]) (by (intro k hk; first | rfl | (simp (disch := omega) only [addB, List.mem_cons, List.not_mem_nil, or_false, upd_other, hpL_cons, hpL_nil, if_neg, updL] <;> done)))⟩
theorem jb_rn {m : Int} {ρ : Nat → Nat} : (jb m).rn ρ = jb m := by simp [jb, Blk.rn, renF, ren0]
def ixSt (b : Blk) (off n cap : Nat) (bx tp : Int) (i : Nat) : GS :=
  ⟨tsL [(0, .slice (some ⟨100, off, none⟩) n cap), (1, .func (.func 63) #[] #[.pointer (some ⟨108, 0, none⟩), .pointer (some ⟨116, 0, none⟩)]), (7, .int .i64 n), (8, .int .i64 i)],
   hpL G0 [(100, b), (108, jb bx), (116, jb tp)], 300, 0⟩
def ixL (b : Blk) (bx tp : Int) : List (Nat × Blk) := [(100, b), (108, jb bx), (116, jb tp)]
theorem ixL_ok {b : Blk} (hb : b.fx) (bx tp : Int) : LOk (ixL b bx tp) 200 := ⟨by simp [ixL], by simp [ixL, keys], by
  simp only [ixL, List.mem_cons, List.not_mem_nil, or_false, forall_eq_or_imp, forall_eq]
  exact ⟨Blk.fx_ids hb _, by simp [jb, ids_lit, idsF, ids0], by simp [jb, ids_lit, idsF, ids0]⟩⟩
theorem ix_fun (b : Blk) (off n cap : Nat) (f : Nat → Int) (h : SB b off n f) (bx tp : Int) (hbx : i64 bx) (htp : i64 tp) (N : Nat) (hN : N ≤ n) (hlt : ∀ i, i < N → inB bx tp f i = true) (hend : N = n ∨ inB bx tp f N = false) :
    Fun Tryd.prog G0 82 #[.slice (some ⟨100, off, none⟩) n cap, .func (.func 63) #[] #[.pointer (some ⟨108, 0, none⟩), .pointer (some ⟨116, 0, none⟩)]] (hpL G0 (ixL b bx tp)) (keys (ixL b bx tp)) (.ret (.int .i64 (if N = n then -1 else N)) []) := by
  refine fun_ofL (B := 200) G0F Tryd.func82 rfl Tryd.call82 (ixL_ok h.fx bx tp) ?_ (by simp) (by simp) (by simp) (by simp [Tryd.ntmps82]) (by omega) ?_
  · simp [idsV, idsA, idsF, ids0, keys, ixL]
  intro C hC hC0 hY
  have hnn := h.nn
  unfold ixL
  repeat' (first | refine gwS ?_ | simp only [wN, wM, Nat.reduceAdd, Nat.reduceMul] | ((first | refine gwR [] ?_ | refine gwD [] ?_); intro Q hQ hP; simp [hC, hY]; (first | refine hQ _ _ _ _ (by kernel_rfl) ?_ | refine hP _ _ (by kernel_rfl) fun _ => ?_); clear hQ hP Q) | refine gwB ?_ | refine gwT ?_ | refine gwK ?_ | refine gwE ?_ | refine gwG ?_ | refine gwL ?_ | simp only [blockG_exit] | (refine gwC ?_ ?_ <;> (intro hb; first | (cases hb; done) | skip)))
  refine GW_for N (ixSt b off n cap bx tp) ?_ ?_ ?_
  · refine weakL _ 300 hC G0F (m0 := [(100, b), (108, jb bx), (116, jb tp)]) hC0 (by omega) ?_ ?_ ?_
    · simp [idsV, idsA, idsF, ids0, dom]
    · have hi := fun D => Blk.fx_ids h.fx D
      simp [ids_lit, idsF, ids0, jb, hi]
    · simp
  · intro i hi
    have hin : i < n := by omega
    have hi' : (i : Int) < n := by omega
    have hz : (0 : Int) ≤ i := by omega
    have hs : Int.bmod ((i : Int) + 1) 18446744073709551616 = ((i + 1 : Nat) : Int) := by rw [bm (by omega) (by omega)]; rfl
    have hld := h.body hin
    have hq := hlt i hi
    unfold inB at hq
    rw [Bool.and_eq_true] at hq
    obtain ⟨q1, q2⟩ := hq
    unfold ixSt
    repeat' (first | refine gwS ?_ | simp only [wN, wM, Nat.reduceAdd, Nat.reduceMul] | ((first | refine gwR [63] ?_ | refine gwD [63] ?_); intro Q hQ hP; simp [hC, hY, hi, hi', hz, hs, hld, q1, q2, jb]; (repeat ((first | (refine heapK_mv (wi1_fun bx tp _ _ _ _ _ _ hbx htp (h.i hin 0 (by omega)) (h.i hin 1 (by omega)) (h.i hin 2 (by omega)) (h.i hin 3 (by omega)) (h.i hin 4 (by omega)) (h.i hin 5 (by omega))) G0F (B := 200) ⟨by simp, by simp [keys], by simp [jb, ids_lit, idsF, ids0]⟩ (fun k => if k = 100 then 108 else if k = 108 then 116 else k) (fun k hk => (if_neg (by omega)).trans (if_neg (by omega))) (by simp [ren, renA, renF, ren0]) (by simp) (by simp [jb, Blk.rn, renF, ren0]) (by simp [keys]) (by simp [keys]; rfl) ?_)); try simp [hC, hY, hi, hi', hz, hs, hld, q1, q2, jb])); (first | refine hQ _ _ _ _ (by kernel_rfl) ?_ | refine hP _ _ (by kernel_rfl) fun _ => ?_); clear hQ hP Q) | refine gwB ?_ | refine gwT ?_ | refine gwK ?_ | refine gwE ?_ | refine gwG ?_ | refine gwL ?_ | simp only [blockG_exit] | (refine gwC ?_ ?_ <;> (intro hb; first | (cases hb; done) | skip)))
    refine weakL _ 300 hC G0F (m0 := [(100, b), (108, jb bx), (116, jb tp)]) hC0 (by omega) ?_ ?_ ?_
    · simp [idsV, idsA, idsF, ids0, dom, hs]
    · have hi := fun D => Blk.fx_ids h.fx D
      simp [ids_lit, idsF, ids0, jb, hi]
    · simp [jb]
  · by_cases hNn : N = n
    · subst hNn
      simp only [if_true]
      unfold ixSt
      repeat' (first | refine gwS ?_ | simp only [wN, wM, Nat.reduceAdd, Nat.reduceMul] | ((first | refine gwR [] ?_ | refine gwD [] ?_); intro Q hQ hP; simp [hC, hY]; (first | refine hQ _ _ _ _ (by kernel_rfl) ?_ | refine hP _ _ (by kernel_rfl) fun _ => ?_); clear hQ hP Q) | refine gwB ?_ | refine gwT ?_ | refine gwK ?_ | refine gwE ?_ | refine gwG ?_ | refine gwL ?_ | simp only [blockG_exit] | (refine gwC ?_ ?_ <;> (intro hb; first | (cases hb; done) | skip)))
      refine ⟨.inr rfl, by simp [Tryd.results82], keep_of G0F (by simp) (by (intro k hk; first | rfl | (simp (disch := omega) only [addB, List.mem_cons, List.not_mem_nil, or_false, upd_other, hpL_cons, hpL_nil, if_neg, updL] <;> done)))⟩
    · have hin : N < n := by omega
      have hi' : (N : Int) < n := by omega
      have hz : (0 : Int) ≤ N := by omega
      have hld := h.body hin
      have hq := hend.resolve_left hNn
      unfold inB at hq
      rw [if_neg hNn]
      unfold ixSt
      cases q1 : inV bx (f (6 * N)) (f (6 * N + 1)) (f (6 * N + 2)) with
      | false =>
        repeat' (first | refine gwS ?_ | simp only [wN, wM, Nat.reduceAdd, Nat.reduceMul] | ((first | refine gwR [63] ?_ | refine gwD [63] ?_); intro Q hQ hP; simp [hC, hY, hin, hi', hz, hld, q1, jb]; (repeat ((first | (refine heapK_mv (wi1_fun bx tp _ _ _ _ _ _ hbx htp (h.i hin 0 (by omega)) (h.i hin 1 (by omega)) (h.i hin 2 (by omega)) (h.i hin 3 (by omega)) (h.i hin 4 (by omega)) (h.i hin 5 (by omega))) G0F (B := 200) ⟨by simp, by simp [keys], by simp [jb, ids_lit, idsF, ids0]⟩ (fun k => if k = 100 then 108 else if k = 108 then 116 else k) (fun k hk => (if_neg (by omega)).trans (if_neg (by omega))) (by simp [ren, renA, renF, ren0]) (by simp) (by simp [jb, Blk.rn, renF, ren0]) (by simp [keys]) (by simp [keys]; rfl) ?_)); try simp [hC, hY, hin, hi', hz, hld, q1, jb])); (first | refine hQ _ _ _ _ (by kernel_rfl) ?_ | refine hP _ _ (by kernel_rfl) fun _ => ?_); clear hQ hP Q) | refine gwB ?_ | refine gwT ?_ | refine gwK ?_ | refine gwE ?_ | refine gwG ?_ | refine gwL ?_ | simp only [blockG_exit] | (refine gwC ?_ ?_ <;> (intro hb; first | (cases hb; done) | skip)))
        refine ⟨.inr rfl, by simp [Tryd.results82], keep_of G0F (by simp [jb]) (by (intro k hk; first | rfl | (simp (disch := omega) only [addB, List.mem_cons, List.not_mem_nil, or_false, upd_other, hpL_cons, hpL_nil, if_neg, updL] <;> done)))⟩
      | true =>
        have q2 : inV tp (f (6 * N + 3)) (f (6 * N + 4)) (f (6 * N + 5)) = false := by rw [q1] at hq; simpa using hq
        repeat' (first | refine gwS ?_ | simp only [wN, wM, Nat.reduceAdd, Nat.reduceMul] | ((first | refine gwR [63] ?_ | refine gwD [63] ?_); intro Q hQ hP; simp [hC, hY, hin, hi', hz, hld, q1, q2, jb]; (repeat ((first | (refine heapK_mv (wi1_fun bx tp _ _ _ _ _ _ hbx htp (h.i hin 0 (by omega)) (h.i hin 1 (by omega)) (h.i hin 2 (by omega)) (h.i hin 3 (by omega)) (h.i hin 4 (by omega)) (h.i hin 5 (by omega))) G0F (B := 200) ⟨by simp, by simp [keys], by simp [jb, ids_lit, idsF, ids0]⟩ (fun k => if k = 100 then 108 else if k = 108 then 116 else k) (fun k hk => (if_neg (by omega)).trans (if_neg (by omega))) (by simp [ren, renA, renF, ren0]) (by simp) (by simp [jb, Blk.rn, renF, ren0]) (by simp [keys]) (by simp [keys]; rfl) ?_)); try simp [hC, hY, hin, hi', hz, hld, q1, q2, jb])); (first | refine hQ _ _ _ _ (by kernel_rfl) ?_ | refine hP _ _ (by kernel_rfl) fun _ => ?_); clear hQ hP Q) | refine gwB ?_ | refine gwT ?_ | refine gwK ?_ | refine gwE ?_ | refine gwG ?_ | refine gwL ?_ | simp only [blockG_exit] | (refine gwC ?_ ?_ <;> (intro hb; first | (cases hb; done) | skip)))
        refine ⟨.inr rfl, by simp [Tryd.results82], keep_of G0F (by simp [jb]) (by (intro k hk; first | rfl | (simp (disch := omega) only [addB, List.mem_cons, List.not_mem_nil, or_false, upd_other, hpL_cons, hpL_nil, if_neg, updL] <;> done)))⟩
def allB (bx tp : Int) (f : Nat → Int) (n : Nat) : Bool := (List.range n).all (inB bx tp f)
theorem allB_iff {bx tp : Int} {f : Nat → Int} {n : Nat} : allB bx tp f n = true ↔ ∀ i, i < n → inB bx tp f i = true := by simp [allB]
theorem allB_lead {bx tp : Int} {f : Nat → Int} {n N : Nat} (hN : N ≤ n) (hlt : ∀ i, i < N → inB bx tp f i = true) (hend : N = n ∨ inB bx tp f N = false) : allB bx tp f n = decide (N = n) := by
  by_cases h : N = n
  · subst h; rw [decide_eq_true rfl]; exact allB_iff.2 hlt
  · rw [decide_eq_false h]
    cases hb : allB bx tp f n with
    | false => rfl
    | true => have := allB_iff.1 hb N (by omega); rw [hend.resolve_left h] at this; cases this
theorem leadB (p : Nat → Bool) (m : Nat) : ∃ N, N ≤ m ∧ (∀ i, i < N → p i = true) ∧ (N = m ∨ p N = false) := by
  obtain ⟨N, h1, h2, h3⟩ := lead (fun i => p i = true) m
  exact ⟨N, h1, h2, h3.imp id (fun h => by simpa using h)⟩
theorem cf_fun (b : Blk) (off n cap : Nat) (f : Nat → Int) (h : SB b off n f) (bx tp : Int) (hbx : i64 bx) (htp : i64 tp) :
    Fun Tryd.prog G0 62 #[.slice (some ⟨100, off, none⟩) n cap, .func (.func 63) #[] #[.pointer (some ⟨108, 0, none⟩), .pointer (some ⟨116, 0, none⟩)]] (hpL G0 (ixL b bx tp)) (keys (ixL b bx tp)) (.ret (.bool !(allB bx tp f n)) []) := by
  refine fun_ofL (B := 200) G0F Tryd.func62 rfl Tryd.call62 (ixL_ok h.fx bx tp) ?_ (by simp) (by simp) (by simp) (by simp [Tryd.ntmps62]) (by omega) ?_
  · simp [idsV, idsA, idsF, ids0, keys, ixL]
  intro C hC hC0 hY
  obtain ⟨N, hN, hlt, hend⟩ := leadB (inB bx tp f) n
  rw [allB_lead hN hlt hend]
  have hr := fun ρ => Blk.fx_rn h.fx ρ
  unfold ixL
  by_cases hNn : N = n
  · have hNn' : (decide (N = n)) = true := decide_eq_true hNn
    rw [hNn']
    repeat' (first | refine gwS ?_ | simp only [wN, wM, Nat.reduceAdd, Nat.reduceMul] | ((first | refine gwR [82] ?_ | refine gwD [82] ?_); intro Q hQ hP; simp [hC, hY, hNn]; (repeat ((first | (refine heapK_mv (ix_fun b off n cap f h bx tp hbx htp N hN hlt hend) G0F (B := 200) (ixL_ok h.fx bx tp) (fun k => k) (fun k hk => rfl) (by simp [ren, renA, renF, ren0]) (by simp) (by simp [ixL, jb, Blk.rn_id]) (by simp [keys]) (by simp [keys, ixL]; rfl) ?_)); try simp [hC, hY, hNn])); (first | refine hQ _ _ _ _ (by kernel_rfl) ?_ | refine hP _ _ (by kernel_rfl) fun _ => ?_); clear hQ hP Q) | refine gwB ?_ | refine gwT ?_ | refine gwK ?_ | refine gwE ?_ | refine gwG ?_ | refine gwL ?_ | simp only [blockG_exit] | (refine gwC ?_ ?_ <;> (intro hb; first | (cases hb; done) | skip)))
    refine ⟨.inr rfl, by simp [Tryd.results62], keep_of G0F (by simp [jb]) (by (intro k hk; first | rfl | (simp (disch := omega) only [addB, List.mem_cons, List.not_mem_nil, or_false, upd_other, hpL_cons, hpL_nil, if_neg, updL] <;> done)))⟩
  · have hNn' : (decide (N = n)) = false := decide_eq_false hNn
    have hz : (0 : Int) ≤ N := by omega
    rw [hNn']
    repeat' (first | refine gwS ?_ | simp only [wN, wM, Nat.reduceAdd, Nat.reduceMul] | ((first | refine gwR [82] ?_ | refine gwD [82] ?_); intro Q hQ hP; simp [hC, hY, hNn, hz]; (repeat ((first | (refine heapK_mv (ix_fun b off n cap f h bx tp hbx htp N hN hlt hend) G0F (B := 200) (ixL_ok h.fx bx tp) (fun k => k) (fun k hk => rfl) (by simp [ren, renA, renF, ren0]) (by simp) (by simp [ixL, jb, Blk.rn_id]) (by simp [keys]) (by simp [keys, ixL]; rfl) ?_)); try simp [hC, hY, hNn, hz])); (first | refine hQ _ _ _ _ (by kernel_rfl) ?_ | refine hP _ _ (by kernel_rfl) fun _ => ?_); clear hQ hP Q) | refine gwB ?_ | refine gwT ?_ | refine gwK ?_ | refine gwE ?_ | refine gwG ?_ | refine gwL ?_ | simp only [blockG_exit] | (refine gwC ?_ ?_ <;> (intro hb; first | (cases hb; done) | skip)))
    refine ⟨.inr rfl, by simp [Tryd.results62], keep_of G0F (by simp [jb]) (by (intro k hk; first | rfl | (simp (disch := omega) only [addB, List.mem_cons, List.not_mem_nil, or_false, upd_other, hpL_cons, hpL_nil, if_neg, updL] <;> done)))⟩
theorem oneL_ok {b : Blk} (hb : b.fx) : LOk [(100, b)] 200 := ⟨by simp, by simp [keys], by
  simp only [List.mem_singleton, forall_eq]
  exact Blk.fx_ids hb _⟩
theorem swi_fun (b : Blk) (off n cap : Nat) (f : Nat → Int) (h : SB b off n f) (st bx tp : Int) (hbx : i64 bx) (htp : i64 tp) :
    Fun Tryd.prog G0 48 #[.agg #[.int .i64 st, .slice (some ⟨100, off, none⟩) n cap], .int .i64 bx, .int .i64 tp] (hpL G0 [(100, b)]) (keys [(100, b)]) (.ret (.bool (allB bx tp f n)) []) := by
  refine fun_ofL (B := 200) G0F Tryd.func48 rfl Tryd.call48 (oneL_ok h.fx) ?_ (by simp) (by simp) (by simp) (by simp [Tryd.ntmps48]) (by omega) ?_
  · simp [idsV, idsA, idsF, ids0, keys]
  intro C hC hC0 hY
  have hr := fun ρ => Blk.fx_rn h.fx ρ
  repeat' (first | refine gwS ?_ | simp only [wN, wM, Nat.reduceAdd, Nat.reduceMul] | ((first | refine gwR [62] ?_ | refine gwD [62] ?_); intro Q hQ hP; simp [hC, hY]; (repeat ((first | (refine heapK_mv (cf_fun b off n cap f h bx tp hbx htp) G0F (B := 200) (ixL_ok h.fx bx tp) (fun k => if k = 108 then 208 else if k = 116 then 216 else k) (fun k hk => (if_neg (by omega)).trans (if_neg (by omega))) (by simp [ren, renA, renF, ren0]) (by simp) (by simp [ixL, hr, jb_rn]; simp [jb]) (by simp [keys, ixL]) (by simp [keys, ixL]; rfl) ?_)); try simp [hC, hY])); (first | refine hQ _ _ _ _ (by kernel_rfl) ?_ | refine hP _ _ (by kernel_rfl) fun _ => ?_); clear hQ hP Q) | refine gwB ?_ | refine gwT ?_ | refine gwK ?_ | refine gwE ?_ | refine gwG ?_ | refine gwL ?_ | simp only [blockG_exit] | (refine gwC ?_ ?_ <;> (intro hb; first | (cases hb; done) | skip)))
  refine ⟨.inr rfl, by simp [Tryd.results48], keep_of G0F (by simp [jb]) (by (intro k hk; first | rfl | (simp (disch := omega) only [addB, List.mem_cons, List.not_mem_nil, or_false, upd_other, hpL_cons, hpL_nil, if_neg, updL] <;> done)))⟩
def stB (st : Int) : Bool := decide (-1073741824 ≤ st ∧ st ≤ 1073741824)
theorem stB_max (st : Int) (hs : i64 st) : stB st = (decide ((if st < Int.bmod (-st) 18446744073709551616 then Int.bmod (-st) 18446744073709551616 else st) ≤ 1073741824) && decide (-1073741824 ≤ st)) := by
  have h1 := hs.1
  have h2 := hs.2
  unfold stB
  rw [Bool.eq_iff_iff]
  simp only [Bool.and_eq_true, decide_eq_true_eq]
  rw [Int.bmod_def]
  split <;> split <;> omega
def rightB (st : Int) (f : Nat → Int) (n : Nat) : Bool := stB st && decide (1 ≤ n ∧ n ≤ 4) && allB 1048576 65536 f n
theorem i64_box : i64 1048576 := by unfold i64; omega
theorem i64_top : i64 65536 := by unfold i64; omega
theorem rig_fun (b : Blk) (off n cap : Nat) (f : Nat → Int) (h : SB b off n f) (st : Int) (hs : i64 st) :
    Fun Tryd.prog G0 30 #[.agg #[.int .i64 st, .slice (some ⟨100, off, none⟩) n cap]] (hpL G0 [(100, b)]) (keys [(100, b)]) (.ret (.bool (rightB st f n)) []) := by
  refine fun_ofL (B := 200) G0F Tryd.func30 rfl Tryd.call30 (oneL_ok h.fx) ?_ (by simp) (by simp) (by simp) (by simp [Tryd.ntmps30]) (by omega) ?_
  · simp [idsV, idsA, idsF, ids0, keys]
  intro C hC hC0 hY
  have hr := fun ρ => Blk.fx_rn h.fx ρ
  obtain ⟨m, hm⟩ : ∃ m, (if st < Int.bmod (-st) 18446744073709551616 then Int.bmod (-st) 18446744073709551616 else st) = m := ⟨_, rfl⟩
  have key := stB_max st hs
  rw [hm] at key
  unfold rightB
  rw [key]
  by_cases c0 : m ≤ 1073741824
  · by_cases c1 : -1073741824 ≤ st
    · by_cases c2 : 0 < n
      · by_cases c3 : n ≤ 4
        · have c4 : (n : Int) ≤ 4 := by omega
          have e : decide (1 ≤ n ∧ n ≤ 4) = true := decide_eq_true (by omega)
          rw [decide_eq_true c0, decide_eq_true c1, e]
          repeat' (first | refine gwS ?_ | simp only [wN, wM, Nat.reduceAdd, Nat.reduceMul] | ((first | refine gwR [48] ?_ | refine gwD [48] ?_); intro Q hQ hP; simp [hC, hY, hm, c0, c1, c2, c3, c4]; (repeat ((first | (refine heapK_mv (swi_fun b off n cap f h st 1048576 65536 i64_box i64_top) G0F (B := 200) (oneL_ok h.fx) (fun k => k) (fun k hk => rfl) (by simp [ren, renA, renF, ren0]) (by simp) (by simp [hr]) (by simp [keys]) (by simp [keys]; rfl) ?_)); try simp [hC, hY, hm, c0, c1, c2, c3, c4])); (first | refine hQ _ _ _ _ (by kernel_rfl) ?_ | refine hP _ _ (by kernel_rfl) fun _ => ?_); clear hQ hP Q) | refine gwB ?_ | refine gwT ?_ | refine gwK ?_ | refine gwE ?_ | refine gwG ?_ | refine gwL ?_ | simp only [blockG_exit] | (refine gwC ?_ ?_ <;> (intro hb; first | (cases hb; done) | skip)))
          refine ⟨.inr rfl, by simp [Tryd.results30], keep_of G0F (by simp) (by (intro k hk; first | rfl | (simp (disch := omega) only [addB, List.mem_cons, List.not_mem_nil, or_false, upd_other, hpL_cons, hpL_nil, if_neg, updL] <;> done)))⟩
        · have c4 : ¬ (n : Int) ≤ 4 := by omega
          have e : decide (1 ≤ n ∧ n ≤ 4) = false := decide_eq_false (by omega)
          rw [decide_eq_true c0, decide_eq_true c1, e]
          repeat' (first | refine gwS ?_ | simp only [wN, wM, Nat.reduceAdd, Nat.reduceMul] | ((first | refine gwR [] ?_ | refine gwD [] ?_); intro Q hQ hP; simp [hC, hY, hm, c0, c1, c2, c3, c4]; (first | refine hQ _ _ _ _ (by kernel_rfl) ?_ | refine hP _ _ (by kernel_rfl) fun _ => ?_); clear hQ hP Q) | refine gwB ?_ | refine gwT ?_ | refine gwK ?_ | refine gwE ?_ | refine gwG ?_ | refine gwL ?_ | simp only [blockG_exit] | (refine gwC ?_ ?_ <;> (intro hb; first | (cases hb; done) | skip)))
          refine ⟨.inr rfl, by simp [Tryd.results30], keep_of G0F (by simp) (by (intro k hk; first | rfl | (simp (disch := omega) only [addB, List.mem_cons, List.not_mem_nil, or_false, upd_other, hpL_cons, hpL_nil, if_neg, updL] <;> done)))⟩
      · have e : decide (1 ≤ n ∧ n ≤ 4) = false := decide_eq_false (by omega)
        rw [decide_eq_true c0, decide_eq_true c1, e]
        repeat' (first | refine gwS ?_ | simp only [wN, wM, Nat.reduceAdd, Nat.reduceMul] | ((first | refine gwR [] ?_ | refine gwD [] ?_); intro Q hQ hP; simp [hC, hY, hm, c0, c1, c2]; (first | refine hQ _ _ _ _ (by kernel_rfl) ?_ | refine hP _ _ (by kernel_rfl) fun _ => ?_); clear hQ hP Q) | refine gwB ?_ | refine gwT ?_ | refine gwK ?_ | refine gwE ?_ | refine gwG ?_ | refine gwL ?_ | simp only [blockG_exit] | (refine gwC ?_ ?_ <;> (intro hb; first | (cases hb; done) | skip)))
        refine ⟨.inr rfl, by simp [Tryd.results30], keep_of G0F (by simp) (by (intro k hk; first | rfl | (simp (disch := omega) only [addB, List.mem_cons, List.not_mem_nil, or_false, upd_other, hpL_cons, hpL_nil, if_neg, updL] <;> done)))⟩
    · rw [decide_eq_true c0, decide_eq_false c1]
      repeat' (first | refine gwS ?_ | simp only [wN, wM, Nat.reduceAdd, Nat.reduceMul] | ((first | refine gwR [] ?_ | refine gwD [] ?_); intro Q hQ hP; simp [hC, hY, hm, c0, c1]; (first | refine hQ _ _ _ _ (by kernel_rfl) ?_ | refine hP _ _ (by kernel_rfl) fun _ => ?_); clear hQ hP Q) | refine gwB ?_ | refine gwT ?_ | refine gwK ?_ | refine gwE ?_ | refine gwG ?_ | refine gwL ?_ | simp only [blockG_exit] | (refine gwC ?_ ?_ <;> (intro hb; first | (cases hb; done) | skip)))
      refine ⟨.inr rfl, by simp [Tryd.results30], keep_of G0F (by simp) (by (intro k hk; first | rfl | (simp (disch := omega) only [addB, List.mem_cons, List.not_mem_nil, or_false, upd_other, hpL_cons, hpL_nil, if_neg, updL] <;> done)))⟩
  · rw [decide_eq_false c0]
    repeat' (first | refine gwS ?_ | simp only [wN, wM, Nat.reduceAdd, Nat.reduceMul] | ((first | refine gwR [] ?_ | refine gwD [] ?_); intro Q hQ hP; simp [hC, hY, hm, c0]; (first | refine hQ _ _ _ _ (by kernel_rfl) ?_ | refine hP _ _ (by kernel_rfl) fun _ => ?_); clear hQ hP Q) | refine gwB ?_ | refine gwT ?_ | refine gwK ?_ | refine gwE ?_ | refine gwG ?_ | refine gwL ?_ | simp only [blockG_exit] | (refine gwC ?_ ?_ <;> (intro hb; first | (cases hb; done) | skip)))
    refine ⟨.inr rfl, by simp [Tryd.results30], keep_of G0F (by simp) (by (intro k hk; first | rfl | (simp (disch := omega) only [addB, List.mem_cons, List.not_mem_nil, or_false, upd_other, hpL_cons, hpL_nil, if_neg, updL] <;> done)))⟩
theorem SB.int {b : Blk} {off n : Nat} {f : Nat → Int} (h : SB b off n f) {i : Nat} (hi : i < n) {q : Nat} (hq : q < 6) : loadK Tryd.prog 3 b (off + i * 6 + q) = some (.int .i64 (f (6 * i + q))) := by
  have hbrd := Blk.fx_rd h.fx
  have := loadK_rd1 (P := Tryd.prog) (T := 3) (j := 6 * i + q) (tyAgg_of Tryd.isAgg3) h.rd (by omega)
  rw [show off + i * 6 + q = off + (6 * i + q) by omega, this]
def w10St (b : Blk) (off n cap : Nat) (st : Int) (i : Nat) : GS :=
  ⟨tsL [(1, .int .i64 1048576), (2, .int .i64 65536), (3, .pointer (some ⟨200, 0, none⟩)), (7, .int .i64 i)],
   hpL G0 [(200, ⟨#[.int .i64 st, .slice (some ⟨100, off, none⟩) n cap], .ty 27⟩), (100, b)], 400, 0⟩
theorem inB_cases {f : Nat → Int} {i : Nat} : inB 1048576 65536 f i = true ↔ ((-1048576 ≤ f (6 * i) ∧ f (6 * i) ≤ 1048576) ∧ (-1048576 ≤ f (6 * i + 1) ∧ f (6 * i + 1) ≤ 1048576) ∧ (-1048576 ≤ f (6 * i + 2) ∧ f (6 * i + 2) ≤ 1048576)) ∧ (-65536 ≤ f (6 * i + 3) ∧ f (6 * i + 3) ≤ 65536) ∧ (-65536 ≤ f (6 * i + 4) ∧ f (6 * i + 4) ≤ 65536) ∧ (-65536 ≤ f (6 * i + 5) ∧ f (6 * i + 5) ≤ 65536) := by
  unfold inB inV inW
  simp only [Bool.and_eq_true, decide_eq_true_eq]
  omega
set_option maxHeartbeats 4000000 in
set_option maxRecDepth 20000 in
theorem w10_fun (b : Blk) (off n cap : Nat) (f : Nat → Int) (h : SB b off n f) (st : Int) :
    Fun Tryd.prog G0 23 #[.agg #[.int .i64 st, .slice (some ⟨100, off, none⟩) n cap], .int .i64 1048576, .int .i64 65536] (hpL G0 [(100, b)]) (keys [(100, b)]) (.ret (.bool (allB 1048576 65536 f n)) []) := by
  refine fun_ofL (B := 200) G0F Tryd.func23 rfl Tryd.call23 (oneL_ok h.fx) ?_ (by simp) (by simp) (by simp) (by simp [Tryd.ntmps23]) (by omega) ?_
  · simp [idsV, idsA, idsF, ids0, keys]
  intro C hC hC0 hY
  obtain ⟨N, hN, hlt, hend⟩ := leadB (inB 1048576 65536 f) n
  have hnn := h.nn
  rw [allB_lead hN hlt hend]
  repeat' (first | refine gwS ?_ | simp only [wN, wM, Nat.reduceAdd, Nat.reduceMul] | ((first | refine gwR [] ?_ | refine gwD [] ?_); intro Q hQ hP; simp [hC, hY]; (first | refine hQ _ _ _ _ (by kernel_rfl) ?_ | refine hP _ _ (by kernel_rfl) fun _ => ?_); clear hQ hP Q) | refine gwB ?_ | refine gwT ?_ | refine gwK ?_ | refine gwE ?_ | refine gwG ?_ | refine gwL ?_ | simp only [blockG_exit] | (refine gwC ?_ ?_ <;> (intro hb; first | (cases hb; done) | skip)))
  refine GW_for N (w10St b off n cap st) ?_ ?_ ?_
  · refine weakL _ 400 hC G0F (m0 := [(100, b)]) hC0 (by omega) ?_ ?_ ?_
    · simp [idsV, idsA, idsF, ids0, dom]
    · have hi := fun D => Blk.fx_ids h.fx D
      simp [ids_lit, idsF, ids0, hi, dom]
    · simp
  · intro i hi
    have hin : i < n := by omega
    have hi' : (i : Int) < n := by omega
    have hz : (0 : Int) ≤ i := by omega
    have hs : Int.bmod ((i : Int) + 1) 18446744073709551616 = ((i + 1 : Nat) : Int) := by rw [bm (by omega) (by omega)]; rfl
    have l0 := h.int hin (q := 0) (by omega)
    have l1 := h.int hin (q := 1) (by omega)
    have l2 := h.int hin (q := 2) (by omega)
    have l3 := h.int hin (q := 3) (by omega)
    have l4 := h.int hin (q := 4) (by omega)
    have l5 := h.int hin (q := 5) (by omega)
    simp only [Nat.add_zero] at l0
    obtain ⟨⟨⟨a0, b0⟩, ⟨a1, b1⟩, ⟨a2, b2⟩⟩, ⟨a3, b3⟩, ⟨a4, b4⟩, ⟨a5, b5⟩⟩ := inB_cases.1 (hlt i hi)
    replace a0 := Int.not_lt.2 a0
    replace a1 := Int.not_lt.2 a1
    replace a2 := Int.not_lt.2 a2
    replace a3 := Int.not_lt.2 a3
    replace a4 := Int.not_lt.2 a4
    replace a5 := Int.not_lt.2 a5
    replace b0 := Int.not_lt.2 b0
    replace b1 := Int.not_lt.2 b1
    replace b2 := Int.not_lt.2 b2
    replace b3 := Int.not_lt.2 b3
    replace b4 := Int.not_lt.2 b4
    replace b5 := Int.not_lt.2 b5
    unfold w10St
    repeat' (first | refine gwS ?_ | refine GWL_start ?_ | refine GWL_step ?_ | simp only [wN, wM, Nat.reduceAdd, Nat.reduceMul] | ((first | refine gwR [] ?_ | refine gwD [] ?_); intro Q hQ hP; simp [hC, hY, hi, hin, hi', hz, hs, l0, l1, l2, l3, l4, l5, a0, a1, a2, a3, a4, a5, b0, b1, b2, b3, b4, b5]; (first | refine hQ _ _ _ _ (by kernel_rfl) ?_ | refine hP _ _ (by kernel_rfl) fun _ => ?_); clear hQ hP Q) | refine gwB ?_ | refine gwT ?_ | refine gwK ?_ | refine gwE ?_ | refine gwG ?_ | refine gwL ?_ | simp only [blockG_exit] | (refine gwC ?_ ?_ <;> (intro hb; first | (cases hb; done) | skip)))
    refine weakL _ 400 hC G0F (m0 := [(100, b)]) hC0 (by omega) ?_ ?_ ?_
    · simp [idsV, idsA, idsF, ids0, dom, hs]
    · have hi := fun D => Blk.fx_ids h.fx D
      simp [ids_lit, idsF, ids0, hi, dom]
    · simp
  · by_cases hNn : N = n
    · rw [decide_eq_true hNn]
      subst hNn
      unfold w10St
      repeat' (first | refine gwS ?_ | simp only [wN, wM, Nat.reduceAdd, Nat.reduceMul] | ((first | refine gwR [] ?_ | refine gwD [] ?_); intro Q hQ hP; simp [hC, hY]; (first | refine hQ _ _ _ _ (by kernel_rfl) ?_ | refine hP _ _ (by kernel_rfl) fun _ => ?_); clear hQ hP Q) | refine gwB ?_ | refine gwT ?_ | refine gwK ?_ | refine gwE ?_ | refine gwG ?_ | refine gwL ?_ | simp only [blockG_exit] | (refine gwC ?_ ?_ <;> (intro hb; first | (cases hb; done) | skip)))
      refine ⟨.inr rfl, by simp [Tryd.results23], keep_of G0F (by simp) (by (intro k hk; first | rfl | (simp (disch := omega) only [addB, List.mem_cons, List.not_mem_nil, or_false, upd_other, hpL_cons, hpL_nil, if_neg, updL] <;> done)))⟩
    · rw [decide_eq_false hNn]
      have hin : N < n := by omega
      have hi' : (N : Int) < n := by omega
      have hz : (0 : Int) ≤ N := by omega
      have l0 := h.int hin (q := 0) (by omega)
      have l1 := h.int hin (q := 1) (by omega)
      have l2 := h.int hin (q := 2) (by omega)
      have l3 := h.int hin (q := 3) (by omega)
      have l4 := h.int hin (q := 4) (by omega)
      have l5 := h.int hin (q := 5) (by omega)
      simp only [Nat.add_zero] at l0
      have hbad : ¬ inB 1048576 65536 f N = true := by rw [hend.resolve_left hNn]; simp
      rw [inB_cases] at hbad
      unfold w10St
      by_cases a0 : f (6 * N) < -1048576
      ·
        repeat' (first | refine gwS ?_ | refine GWL_start ?_ | refine GWL_step ?_ | simp only [wN, wM, Nat.reduceAdd, Nat.reduceMul] | ((first | refine gwR [] ?_ | refine gwD [] ?_); intro Q hQ hP; simp [hC, hY, hin, hi', hz, l0, l1, l2, l3, l4, l5, a0]; (first | refine hQ _ _ _ _ (by kernel_rfl) ?_ | refine hP _ _ (by kernel_rfl) fun _ => ?_); clear hQ hP Q) | refine gwB ?_ | refine gwT ?_ | refine gwK ?_ | refine gwE ?_ | refine gwG ?_ | refine gwL ?_ | simp only [blockG_exit] | (refine gwC ?_ ?_ <;> (intro hb; first | (cases hb; done) | skip)))
        refine ⟨.inr rfl, by simp [Tryd.results23], keep_of G0F (by simp) (by (intro k hk; first | rfl | (simp (disch := omega) only [addB, List.mem_cons, List.not_mem_nil, or_false, upd_other, hpL_cons, hpL_nil, if_neg, updL] <;> done)))⟩
      by_cases b0 : 1048576 < f (6 * N)
      ·
        repeat' (first | refine gwS ?_ | refine GWL_start ?_ | refine GWL_step ?_ | simp only [wN, wM, Nat.reduceAdd, Nat.reduceMul] | ((first | refine gwR [] ?_ | refine gwD [] ?_); intro Q hQ hP; simp [hC, hY, hin, hi', hz, l0, l1, l2, l3, l4, l5, a0, b0]; (first | refine hQ _ _ _ _ (by kernel_rfl) ?_ | refine hP _ _ (by kernel_rfl) fun _ => ?_); clear hQ hP Q) | refine gwB ?_ | refine gwT ?_ | refine gwK ?_ | refine gwE ?_ | refine gwG ?_ | refine gwL ?_ | simp only [blockG_exit] | (refine gwC ?_ ?_ <;> (intro hb; first | (cases hb; done) | skip)))
        refine ⟨.inr rfl, by simp [Tryd.results23], keep_of G0F (by simp) (by (intro k hk; first | rfl | (simp (disch := omega) only [addB, List.mem_cons, List.not_mem_nil, or_false, upd_other, hpL_cons, hpL_nil, if_neg, updL] <;> done)))⟩
      by_cases a3 : f (6 * N + 3) < -65536
      ·
        repeat' (first | refine gwS ?_ | refine GWL_start ?_ | refine GWL_step ?_ | simp only [wN, wM, Nat.reduceAdd, Nat.reduceMul] | ((first | refine gwR [] ?_ | refine gwD [] ?_); intro Q hQ hP; simp [hC, hY, hin, hi', hz, l0, l1, l2, l3, l4, l5, a0, b0, a3]; (first | refine hQ _ _ _ _ (by kernel_rfl) ?_ | refine hP _ _ (by kernel_rfl) fun _ => ?_); clear hQ hP Q) | refine gwB ?_ | refine gwT ?_ | refine gwK ?_ | refine gwE ?_ | refine gwG ?_ | refine gwL ?_ | simp only [blockG_exit] | (refine gwC ?_ ?_ <;> (intro hb; first | (cases hb; done) | skip)))
        refine ⟨.inr rfl, by simp [Tryd.results23], keep_of G0F (by simp) (by (intro k hk; first | rfl | (simp (disch := omega) only [addB, List.mem_cons, List.not_mem_nil, or_false, upd_other, hpL_cons, hpL_nil, if_neg, updL] <;> done)))⟩
      by_cases b3 : 65536 < f (6 * N + 3)
      ·
        repeat' (first | refine gwS ?_ | refine GWL_start ?_ | refine GWL_step ?_ | simp only [wN, wM, Nat.reduceAdd, Nat.reduceMul] | ((first | refine gwR [] ?_ | refine gwD [] ?_); intro Q hQ hP; simp [hC, hY, hin, hi', hz, l0, l1, l2, l3, l4, l5, a0, b0, a3, b3]; (first | refine hQ _ _ _ _ (by kernel_rfl) ?_ | refine hP _ _ (by kernel_rfl) fun _ => ?_); clear hQ hP Q) | refine gwB ?_ | refine gwT ?_ | refine gwK ?_ | refine gwE ?_ | refine gwG ?_ | refine gwL ?_ | simp only [blockG_exit] | (refine gwC ?_ ?_ <;> (intro hb; first | (cases hb; done) | skip)))
        refine ⟨.inr rfl, by simp [Tryd.results23], keep_of G0F (by simp) (by (intro k hk; first | rfl | (simp (disch := omega) only [addB, List.mem_cons, List.not_mem_nil, or_false, upd_other, hpL_cons, hpL_nil, if_neg, updL] <;> done)))⟩
      by_cases a1 : f (6 * N + 1) < -1048576
      ·
        repeat' (first | refine gwS ?_ | refine GWL_start ?_ | refine GWL_step ?_ | simp only [wN, wM, Nat.reduceAdd, Nat.reduceMul] | ((first | refine gwR [] ?_ | refine gwD [] ?_); intro Q hQ hP; simp [hC, hY, hin, hi', hz, l0, l1, l2, l3, l4, l5, a0, b0, a3, b3, a1]; (first | refine hQ _ _ _ _ (by kernel_rfl) ?_ | refine hP _ _ (by kernel_rfl) fun _ => ?_); clear hQ hP Q) | refine gwB ?_ | refine gwT ?_ | refine gwK ?_ | refine gwE ?_ | refine gwG ?_ | refine gwL ?_ | simp only [blockG_exit] | (refine gwC ?_ ?_ <;> (intro hb; first | (cases hb; done) | skip)))
        refine ⟨.inr rfl, by simp [Tryd.results23], keep_of G0F (by simp) (by (intro k hk; first | rfl | (simp (disch := omega) only [addB, List.mem_cons, List.not_mem_nil, or_false, upd_other, hpL_cons, hpL_nil, if_neg, updL] <;> done)))⟩
      by_cases b1 : 1048576 < f (6 * N + 1)
      ·
        repeat' (first | refine gwS ?_ | refine GWL_start ?_ | refine GWL_step ?_ | simp only [wN, wM, Nat.reduceAdd, Nat.reduceMul] | ((first | refine gwR [] ?_ | refine gwD [] ?_); intro Q hQ hP; simp [hC, hY, hin, hi', hz, l0, l1, l2, l3, l4, l5, a0, b0, a3, b3, a1, b1]; (first | refine hQ _ _ _ _ (by kernel_rfl) ?_ | refine hP _ _ (by kernel_rfl) fun _ => ?_); clear hQ hP Q) | refine gwB ?_ | refine gwT ?_ | refine gwK ?_ | refine gwE ?_ | refine gwG ?_ | refine gwL ?_ | simp only [blockG_exit] | (refine gwC ?_ ?_ <;> (intro hb; first | (cases hb; done) | skip)))
        refine ⟨.inr rfl, by simp [Tryd.results23], keep_of G0F (by simp) (by (intro k hk; first | rfl | (simp (disch := omega) only [addB, List.mem_cons, List.not_mem_nil, or_false, upd_other, hpL_cons, hpL_nil, if_neg, updL] <;> done)))⟩
      by_cases a4 : f (6 * N + 4) < -65536
      ·
        repeat' (first | refine gwS ?_ | refine GWL_start ?_ | refine GWL_step ?_ | simp only [wN, wM, Nat.reduceAdd, Nat.reduceMul] | ((first | refine gwR [] ?_ | refine gwD [] ?_); intro Q hQ hP; simp [hC, hY, hin, hi', hz, l0, l1, l2, l3, l4, l5, a0, b0, a3, b3, a1, b1, a4]; (first | refine hQ _ _ _ _ (by kernel_rfl) ?_ | refine hP _ _ (by kernel_rfl) fun _ => ?_); clear hQ hP Q) | refine gwB ?_ | refine gwT ?_ | refine gwK ?_ | refine gwE ?_ | refine gwG ?_ | refine gwL ?_ | simp only [blockG_exit] | (refine gwC ?_ ?_ <;> (intro hb; first | (cases hb; done) | skip)))
        refine ⟨.inr rfl, by simp [Tryd.results23], keep_of G0F (by simp) (by (intro k hk; first | rfl | (simp (disch := omega) only [addB, List.mem_cons, List.not_mem_nil, or_false, upd_other, hpL_cons, hpL_nil, if_neg, updL] <;> done)))⟩
      by_cases b4 : 65536 < f (6 * N + 4)
      ·
        repeat' (first | refine gwS ?_ | refine GWL_start ?_ | refine GWL_step ?_ | simp only [wN, wM, Nat.reduceAdd, Nat.reduceMul] | ((first | refine gwR [] ?_ | refine gwD [] ?_); intro Q hQ hP; simp [hC, hY, hin, hi', hz, l0, l1, l2, l3, l4, l5, a0, b0, a3, b3, a1, b1, a4, b4]; (first | refine hQ _ _ _ _ (by kernel_rfl) ?_ | refine hP _ _ (by kernel_rfl) fun _ => ?_); clear hQ hP Q) | refine gwB ?_ | refine gwT ?_ | refine gwK ?_ | refine gwE ?_ | refine gwG ?_ | refine gwL ?_ | simp only [blockG_exit] | (refine gwC ?_ ?_ <;> (intro hb; first | (cases hb; done) | skip)))
        refine ⟨.inr rfl, by simp [Tryd.results23], keep_of G0F (by simp) (by (intro k hk; first | rfl | (simp (disch := omega) only [addB, List.mem_cons, List.not_mem_nil, or_false, upd_other, hpL_cons, hpL_nil, if_neg, updL] <;> done)))⟩
      by_cases a2 : f (6 * N + 2) < -1048576
      ·
        repeat' (first | refine gwS ?_ | refine GWL_start ?_ | refine GWL_step ?_ | simp only [wN, wM, Nat.reduceAdd, Nat.reduceMul] | ((first | refine gwR [] ?_ | refine gwD [] ?_); intro Q hQ hP; simp [hC, hY, hin, hi', hz, l0, l1, l2, l3, l4, l5, a0, b0, a3, b3, a1, b1, a4, b4, a2]; (first | refine hQ _ _ _ _ (by kernel_rfl) ?_ | refine hP _ _ (by kernel_rfl) fun _ => ?_); clear hQ hP Q) | refine gwB ?_ | refine gwT ?_ | refine gwK ?_ | refine gwE ?_ | refine gwG ?_ | refine gwL ?_ | simp only [blockG_exit] | (refine gwC ?_ ?_ <;> (intro hb; first | (cases hb; done) | skip)))
        refine ⟨.inr rfl, by simp [Tryd.results23], keep_of G0F (by simp) (by (intro k hk; first | rfl | (simp (disch := omega) only [addB, List.mem_cons, List.not_mem_nil, or_false, upd_other, hpL_cons, hpL_nil, if_neg, updL] <;> done)))⟩
      by_cases b2 : 1048576 < f (6 * N + 2)
      ·
        repeat' (first | refine gwS ?_ | refine GWL_start ?_ | refine GWL_step ?_ | simp only [wN, wM, Nat.reduceAdd, Nat.reduceMul] | ((first | refine gwR [] ?_ | refine gwD [] ?_); intro Q hQ hP; simp [hC, hY, hin, hi', hz, l0, l1, l2, l3, l4, l5, a0, b0, a3, b3, a1, b1, a4, b4, a2, b2]; (first | refine hQ _ _ _ _ (by kernel_rfl) ?_ | refine hP _ _ (by kernel_rfl) fun _ => ?_); clear hQ hP Q) | refine gwB ?_ | refine gwT ?_ | refine gwK ?_ | refine gwE ?_ | refine gwG ?_ | refine gwL ?_ | simp only [blockG_exit] | (refine gwC ?_ ?_ <;> (intro hb; first | (cases hb; done) | skip)))
        refine ⟨.inr rfl, by simp [Tryd.results23], keep_of G0F (by simp) (by (intro k hk; first | rfl | (simp (disch := omega) only [addB, List.mem_cons, List.not_mem_nil, or_false, upd_other, hpL_cons, hpL_nil, if_neg, updL] <;> done)))⟩
      by_cases a5 : f (6 * N + 5) < -65536
      ·
        repeat' (first | refine gwS ?_ | refine GWL_start ?_ | refine GWL_step ?_ | simp only [wN, wM, Nat.reduceAdd, Nat.reduceMul] | ((first | refine gwR [] ?_ | refine gwD [] ?_); intro Q hQ hP; simp [hC, hY, hin, hi', hz, l0, l1, l2, l3, l4, l5, a0, b0, a3, b3, a1, b1, a4, b4, a2, b2, a5]; (first | refine hQ _ _ _ _ (by kernel_rfl) ?_ | refine hP _ _ (by kernel_rfl) fun _ => ?_); clear hQ hP Q) | refine gwB ?_ | refine gwT ?_ | refine gwK ?_ | refine gwE ?_ | refine gwG ?_ | refine gwL ?_ | simp only [blockG_exit] | (refine gwC ?_ ?_ <;> (intro hb; first | (cases hb; done) | skip)))
        refine ⟨.inr rfl, by simp [Tryd.results23], keep_of G0F (by simp) (by (intro k hk; first | rfl | (simp (disch := omega) only [addB, List.mem_cons, List.not_mem_nil, or_false, upd_other, hpL_cons, hpL_nil, if_neg, updL] <;> done)))⟩
      by_cases b5 : 65536 < f (6 * N + 5)
      ·
        repeat' (first | refine gwS ?_ | refine GWL_start ?_ | refine GWL_step ?_ | simp only [wN, wM, Nat.reduceAdd, Nat.reduceMul] | ((first | refine gwR [] ?_ | refine gwD [] ?_); intro Q hQ hP; simp [hC, hY, hin, hi', hz, l0, l1, l2, l3, l4, l5, a0, b0, a3, b3, a1, b1, a4, b4, a2, b2, a5, b5]; (first | refine hQ _ _ _ _ (by kernel_rfl) ?_ | refine hP _ _ (by kernel_rfl) fun _ => ?_); clear hQ hP Q) | refine gwB ?_ | refine gwT ?_ | refine gwK ?_ | refine gwE ?_ | refine gwG ?_ | refine gwL ?_ | simp only [blockG_exit] | (refine gwC ?_ ?_ <;> (intro hb; first | (cases hb; done) | skip)))
        refine ⟨.inr rfl, by simp [Tryd.results23], keep_of G0F (by simp) (by (intro k hk; first | rfl | (simp (disch := omega) only [addB, List.mem_cons, List.not_mem_nil, or_false, upd_other, hpL_cons, hpL_nil, if_neg, updL] <;> done)))⟩
      exfalso
      omega
theorem rig10_fun (b : Blk) (off n cap : Nat) (f : Nat → Int) (h : SB b off n f) (st : Int) :
    Fun Tryd.prog G0 7 #[.agg #[.int .i64 st, .slice (some ⟨100, off, none⟩) n cap]] (hpL G0 [(100, b)]) (keys [(100, b)]) (.ret (.bool (rightB st f n)) []) := by
  refine fun_ofL (B := 200) G0F Tryd.func7 rfl Tryd.call7 (oneL_ok h.fx) ?_ (by simp) (by simp) (by simp) (by simp [Tryd.ntmps7]) (by omega) ?_
  · simp [idsV, idsA, idsF, ids0, keys]
  intro C hC hC0 hY
  have hr := fun ρ => Blk.fx_rn h.fx ρ
  unfold rightB
  by_cases c0 : -1073741824 ≤ st
  · by_cases c1 : st ≤ 1073741824
    · have es : stB st = true := decide_eq_true ⟨c0, c1⟩
      rw [es]
      by_cases c2 : 1 ≤ n
      · have c2' : (1 : Int) ≤ n := by omega
        have c2'' : 0 < n := by omega
        by_cases c3 : n ≤ 4
        · have c4 : (n : Int) ≤ 4 := by omega
          have e : decide (1 ≤ n ∧ n ≤ 4) = true := decide_eq_true (by omega)
          rw [e]
          repeat' (first | refine gwS ?_ | simp only [wN, wM, Nat.reduceAdd, Nat.reduceMul] | ((first | refine gwR [23] ?_ | refine gwD [23] ?_); intro Q hQ hP; simp [hC, hY, c0, c1, c2, c2', c2'', c3, c4]; (repeat ((first | (refine heapK_mv (w10_fun b off n cap f h st) G0F (B := 200) (oneL_ok h.fx) (fun k => k) (fun k hk => rfl) (by simp [ren, renA, renF, ren0]) (by simp) (by simp [hr]) (by simp [keys]) (by simp [keys]; rfl) ?_)); try simp [hC, hY, c0, c1, c2, c2', c2'', c3, c4])); (first | refine hQ _ _ _ _ (by kernel_rfl) ?_ | refine hP _ _ (by kernel_rfl) fun _ => ?_); clear hQ hP Q) | refine gwB ?_ | refine gwT ?_ | refine gwK ?_ | refine gwE ?_ | refine gwG ?_ | refine gwL ?_ | simp only [blockG_exit] | (refine gwC ?_ ?_ <;> (intro hb; first | (cases hb; done) | skip)))
          refine ⟨.inr rfl, by simp [Tryd.results7], keep_of G0F (by simp) (by (intro k hk; first | rfl | (simp (disch := omega) only [addB, List.mem_cons, List.not_mem_nil, or_false, upd_other, hpL_cons, hpL_nil, if_neg, updL] <;> done)))⟩
        · have c4 : ¬ (n : Int) ≤ 4 := by omega
          have e : decide (1 ≤ n ∧ n ≤ 4) = false := decide_eq_false (by omega)
          rw [e]
          repeat' (first | refine gwS ?_ | simp only [wN, wM, Nat.reduceAdd, Nat.reduceMul] | ((first | refine gwR [] ?_ | refine gwD [] ?_); intro Q hQ hP; simp [hC, hY, c0, c1, c2, c2', c2'', c3, c4]; (first | refine hQ _ _ _ _ (by kernel_rfl) ?_ | refine hP _ _ (by kernel_rfl) fun _ => ?_); clear hQ hP Q) | refine gwB ?_ | refine gwT ?_ | refine gwK ?_ | refine gwE ?_ | refine gwG ?_ | refine gwL ?_ | simp only [blockG_exit] | (refine gwC ?_ ?_ <;> (intro hb; first | (cases hb; done) | skip)))
          refine ⟨.inr rfl, by simp [Tryd.results7], keep_of G0F (by simp) (by (intro k hk; first | rfl | (simp (disch := omega) only [addB, List.mem_cons, List.not_mem_nil, or_false, upd_other, hpL_cons, hpL_nil, if_neg, updL] <;> done)))⟩
      · have c2' : ¬ (1 : Int) ≤ n := by omega
        have c2'' : ¬ 0 < n := by omega
        have c2''' : n = 0 := by omega
        have e : decide (1 ≤ n ∧ n ≤ 4) = false := decide_eq_false (by omega)
        rw [e]
        repeat' (first | refine gwS ?_ | simp only [wN, wM, Nat.reduceAdd, Nat.reduceMul] | ((first | refine gwR [] ?_ | refine gwD [] ?_); intro Q hQ hP; simp [hC, hY, c0, c1, c2, c2', c2'', c2''']; (first | refine hQ _ _ _ _ (by kernel_rfl) ?_ | refine hP _ _ (by kernel_rfl) fun _ => ?_); clear hQ hP Q) | refine gwB ?_ | refine gwT ?_ | refine gwK ?_ | refine gwE ?_ | refine gwG ?_ | refine gwL ?_ | simp only [blockG_exit] | (refine gwC ?_ ?_ <;> (intro hb; first | (cases hb; done) | skip)))
        refine ⟨.inr rfl, by simp [Tryd.results7], keep_of G0F (by simp) (by (intro k hk; first | rfl | (simp (disch := omega) only [addB, List.mem_cons, List.not_mem_nil, or_false, upd_other, hpL_cons, hpL_nil, if_neg, updL] <;> done)))⟩
    · have es : stB st = false := decide_eq_false (by omega)
      rw [es]
      repeat' (first | refine gwS ?_ | simp only [wN, wM, Nat.reduceAdd, Nat.reduceMul] | ((first | refine gwR [] ?_ | refine gwD [] ?_); intro Q hQ hP; simp [hC, hY, c0, c1]; (first | refine hQ _ _ _ _ (by kernel_rfl) ?_ | refine hP _ _ (by kernel_rfl) fun _ => ?_); clear hQ hP Q) | refine gwB ?_ | refine gwT ?_ | refine gwK ?_ | refine gwE ?_ | refine gwG ?_ | refine gwL ?_ | simp only [blockG_exit] | (refine gwC ?_ ?_ <;> (intro hb; first | (cases hb; done) | skip)))
      refine ⟨.inr rfl, by simp [Tryd.results7], keep_of G0F (by simp) (by (intro k hk; first | rfl | (simp (disch := omega) only [addB, List.mem_cons, List.not_mem_nil, or_false, upd_other, hpL_cons, hpL_nil, if_neg, updL] <;> done)))⟩
  · have es : stB st = false := decide_eq_false (by omega)
    rw [es]
    repeat' (first | refine gwS ?_ | simp only [wN, wM, Nat.reduceAdd, Nat.reduceMul] | ((first | refine gwR [] ?_ | refine gwD [] ?_); intro Q hQ hP; simp [hC, hY, c0]; (first | refine hQ _ _ _ _ (by kernel_rfl) ?_ | refine hP _ _ (by kernel_rfl) fun _ => ?_); clear hQ hP Q) | refine gwB ?_ | refine gwT ?_ | refine gwK ?_ | refine gwE ?_ | refine gwG ?_ | refine gwL ?_ | simp only [blockG_exit] | (refine gwC ?_ ?_ <;> (intro hb; first | (cases hb; done) | skip)))
    refine ⟨.inr rfl, by simp [Tryd.results7], keep_of G0F (by simp) (by (intro k hk; first | rfl | (simp (disch := omega) only [addB, List.mem_cons, List.not_mem_nil, or_false, upd_other, hpL_cons, hpL_nil, if_neg, updL] <;> done)))⟩
theorem rig10_nil (st : Int) : Ret Tryd.prog G0 7 #[.agg #[.int .i64 st, .slice none 0 0]] (.bool false) := by
  refine ret_of G0F Tryd.func7 rfl Tryd.call7 rfl (by simp) (by simp [Tryd.ntmps7]) ?_
  intro C hC hC0 hY
  by_cases c0 : -1073741824 ≤ st
  · by_cases c1 : st ≤ 1073741824
    · (repeat' (first | refine gwS ?_ | simp only [wN, wM, Nat.reduceAdd, Nat.reduceMul] | ((first | refine gwR [] ?_ | refine gwD [] ?_); intro Q hQ hP; simp [hC, hY, c0, c1]; (first | refine hQ _ _ _ _ (by kernel_rfl) ?_ | refine hP _ _ (by kernel_rfl) fun _ => ?_); clear hQ hP Q) | refine gwB ?_ | refine gwT ?_ | refine gwK ?_ | refine gwE ?_ | refine gwG ?_ | refine gwL ?_ | simp only [blockG_exit] | (refine gwC ?_ ?_ <;> (intro hb; first | (cases hb; done) | skip))))
      refine ⟨.inr trivial, ?_⟩
      simp [Tryd.results7]
    · (repeat' (first | refine gwS ?_ | simp only [wN, wM, Nat.reduceAdd, Nat.reduceMul] | ((first | refine gwR [] ?_ | refine gwD [] ?_); intro Q hQ hP; simp [hC, hY, c0, c1]; (first | refine hQ _ _ _ _ (by kernel_rfl) ?_ | refine hP _ _ (by kernel_rfl) fun _ => ?_); clear hQ hP Q) | refine gwB ?_ | refine gwT ?_ | refine gwK ?_ | refine gwE ?_ | refine gwG ?_ | refine gwL ?_ | simp only [blockG_exit] | (refine gwC ?_ ?_ <;> (intro hb; first | (cases hb; done) | skip))))
      refine ⟨.inr trivial, ?_⟩
      simp [Tryd.results7]
  · (repeat' (first | refine gwS ?_ | simp only [wN, wM, Nat.reduceAdd, Nat.reduceMul] | ((first | refine gwR [] ?_ | refine gwD [] ?_); intro Q hQ hP; simp [hC, hY, c0]; (first | refine hQ _ _ _ _ (by kernel_rfl) ?_ | refine hP _ _ (by kernel_rfl) fun _ => ?_); clear hQ hP Q) | refine gwB ?_ | refine gwT ?_ | refine gwK ?_ | refine gwE ?_ | refine gwG ?_ | refine gwL ?_ | simp only [blockG_exit] | (refine gwC ?_ ?_ <;> (intro hb; first | (cases hb; done) | skip))))
    refine ⟨.inr trivial, ?_⟩
    simp [Tryd.results7]
@[simp] theorem rig10N (st : Int) (K : Value → Prop) : callK Tryd.prog G0 7 #[.agg #[.int .i64 st, .slice none 0 0]] K ↔ K (.bool false) := callK_iff G0W (by kernel_rfl) (rig10_nil st)
end Go.Gy
namespace Go.Gy
set_option linter.unusedSimpArgs false
open Go Go.RowKit
section
variable {P : Program} {C : Ctx} {n : Nat} {d : List Deferred} {ro : Option Nat} {s : GS} {K : Exit → GS → Prop}
theorem GL_bs0 {ops : Array Oper} {o : Oper} {post : List Oper} {base k : Nat} {ts : Nat → Value} {hp : Hp} {yc : Nat} {T e : TypeId} {m : Nat} (hg : o.guard = none) (hd : ∀ dd, o.dst = some dd → dd < n)
    (ho : o.op = .buildSlice T 0 #[]) (hu : P.underlying T = some (.slice e)) (hm : tySize P e = some m)
    (h : GL P C n d ro ops base (k + 1) post (putT ts o.dst (.slice (some ⟨base + 8 * k, 0, none⟩) 0 0)) (upd hp (base + 8 * k) (some ⟨#[], .ty e⟩)) yc K) : GL P C n d ro ops base k (o :: post) ts hp yc K := by
  intro r a W hi hf hb hG hR
  refine wpListIn_plain hg fun K' hK' => ?_
  have hnk : hp (base + 8 * k) = none := hf _ (Nat.le_refl _)
  have hff : ∀ x ∈ (#[] : Array Value), flatF x = true := by simp
  have hnd : ¬ dom hp (base + 8 * k) := by unfold dom; simp [hnk]
  have hr' : ∀ q, dom hp q → upd r (base + 8 * k) W.heap.size q = r q := fun q hq => upd_other _ _ (fun e => hnd (e ▸ hq))
  refine wp_of_upon (by rw [ho]; intro c; simp) (R := fun u W' => u = .slice (some ⟨W.heap.size, 0, none⟩) 0 0 ∧ W' = W.alloc (.cells #[] e)) (Rp := fun _ _ => False) ?_ (fun u W' h' => ?_) (fun pv W' h => h.elim)
  · unfold Upon
    simp only [execOp, ho, Instr.buildSlice, Sem.run_bind, run_underlying hu, Result.andThen_ok, run_sizeOf hm, Nat.zero_mul]
    simp [Instr.fill, newRow, newObj, Sem.run]
    rw [show Array.range 0 = #[] from rfl, show ∀ f : Nat → Value, Array.map f #[] = #[] from fun f => by simp]
  · obtain ⟨rfl, rfl⟩ := h'
    have hv : (Value.slice (some ⟨W.heap.size, 0, none⟩) 0 0) = ren (upd r (base + 8 * k) W.heap.size) (.slice (some ⟨base + 8 * k, 0, none⟩) 0 0) := by simp [ren, renA, renF, ren0, upd]
    rw [hv]
    refine hK' _ _ (h (upd r (base + 8 * k) W.heap.size) _ _ (hi.after (e := ⟨.slice (some ⟨base + 8 * k, 0, none⟩) 0 0, [], [], [(base + 8 * k, ⟨#[], .ty e⟩)], none, false⟩) hd hr' (by simp [idsV, idsA, idsF, ids0, extD, keys]) ⟨rfl, rfl, rfl, (by show W.heap.size ≤ (W.heap.push _).size; simp), fun q hq _ => ?_, fun p hp1 => ?_, fun p hp1 => ?_, by simp⟩ (by simp [keys]) (by simp [keys, hnk]; omega)) (fun x hx' => ?_) hb hG hR)
    · exact Below.heap_alloc _ _ _ hq
    · simp only [List.nil_append, List.mem_singleton] at hp1
      subst hp1
      refine ⟨?_, Blk.flat_ids hff⟩
      rw [Blk.obj_flat hff]
      show (W.alloc _).heap[upd r (base + 8 * k) W.heap.size (base + 8 * k)]? = _
      rw [upd_same]
      exact heap_alloc_new W _
    · simp only [List.mem_singleton] at hp1
      subst hp1
      show W.heap.size ≤ upd r (base + 8 * k) W.heap.size (base + 8 * k)
      rw [upd_same]
      exact Nat.le_refl _
    · rw [upd_other _ _ (fun e => by omega)]
      exact hf x (by omega)
def RowAt (m i : Nat) (G : Nat → Int) (e : TypeId) (hp : Hp) (sl : Value) : Prop := (i = 0 ∧ sl = .slice none 0 0) ∨ ∃ (k c : Nat) (g : Nat → Int), 100 ≤ k ∧ sl = .slice (some ⟨k, 0, none⟩) i c ∧ hp k = some ⟨fa (m * c) .i64 g, .ty e⟩ ∧ i ≤ c ∧ ∀ j, j < m * i → g j = G j
theorem GL_push {ops : Array Oper} {o : Oper} {post : List Oper} {base k : Nat} {ts : Nat → Value} {hp : Hp} {yc : Nat} {tx ty : Tmp} {t e : TypeId} {m i j by' : Nat} {z : Value} {T2 : BTy} {G ev : Nat → Int} (hg : o.guard = none) (hd : ∀ dd, o.dst = some dd → dd < n)
    (ho : o.op = .call { callee := .builtin .append, args := #[.tmp tx, .tmp ty], argTypes := #[t, t] }) (ht : P.underlying t = some (.slice e)) (hs : tySize P e = some m) (hz : tyZero P e = some z) (hby : tyBytes P e = some by') (hb8 : by' ≤ 8 * m)
    (hzz : ∀ x ∈ z.cells, x = .int .i64 0) (hzs : z.cells.size = m) (hm0 : 0 < m) (hm1 : m ≤ 1024) (hx : RowAt m i G e hp (ts tx)) (hy : ts ty = .slice (some ⟨j, 0, none⟩) 1 1) (hb2 : hp j = some ⟨fa m .i64 ev, T2⟩) (hev : ∀ q, q < m → ev q = G (m * i + q)) (hi20 : (i + 1) * (8 * m) ≤ 140737488355328)
    (h : ∀ k' c' g', (k' = base + 8 * k ∨ ∃ c, ts tx = .slice (some ⟨k', 0, none⟩) i c) → 100 ≤ k' → i + 1 ≤ c' → (∀ q, q < m * (i + 1) → g' q = G q) →
      GL P C n d ro ops base (k + 1) post (putT ts o.dst (.slice (some ⟨k', 0, none⟩) (i + 1) c')) (upd hp k' (some ⟨fa (m * c') .i64 g', .ty e⟩)) yc K) (hrd : T2.rd = true := by first | rfl | assumption) : GL P C n d ro ops base k (o :: post) ts hp yc K := by
  have hzf : ∀ q, ∀ x ∈ Builtin.zeroCells z.cells q, flatF x = true := fun q x hx => by rw [hzz x (zc_mem hx)]; rfl
  by_cases hb100 : ¬ 100 ≤ base
  · intro r a W hi hf hb hG hR
    exact absurd hb hb100
  replace hb100 : 100 ≤ base := Classical.not_not.1 hb100
  have hle : m * (i + 1) = m * i + m := by rw [Nat.mul_add, Nat.mul_one]
  have hmi : m * i ≤ 140737488355328 := Nat.le_trans (by rw [Nat.mul_comm]; exact Nat.mul_le_mul (by omega) (by omega)) hi20
  have hi1 : i + 1 ≤ 140737488355328 := Nat.le_trans (Nat.le_mul_of_pos_right _ (by omega)) hi20
  have h8 : (i + 1) * by' ≤ 140737488355328 := Nat.le_trans (Nat.mul_le_mul (Nat.le_refl _) hb8) hi20
  rcases hx with ⟨rfl, hx⟩ | ⟨k0, c, g, hk0, hx, hb, hic, hgG⟩
  · refine GL_app0 (nw := (fa m .i64 ev).toList) hg hd ho ht hs hz hby hx hy hb2 (fun q u hq => by simpa using hq) fa_list_flat hzf (by omega) (by simp) (by unfold maxLen; omega) (by omega) (fun cap' hc' => ?_)
    rw [zeros_fa (k := .i64) hzz, app_new, hzs]
    have em : m + (cap' - 1) * m = m * cap' := by
      have : cap' = (cap' - 1) + 1 := by omega
      rw [this, Nat.mul_add, Nat.mul_comm m]; simp; omega
    rw [em]
    refine h _ cap' _ (.inl rfl) (by omega) (by omega) fun q hq => ?_
    unfold catN
    rw [if_pos (by omega)]
    have := hev q (by omega)
    simpa using this
  · refine GL_app hg hd (appX_mk (c := (fa (m * c) .i64 g).toList) (c2 := (fa m .i64 ev).toList) (k := k0) (j := j) (m := 1) (m' := 1) (sl := i) (cap := c) (e := e) (T2 := T2) (sz := m) (by' := by') (z := z) ho ht hs hz hby hx hk0 (by simpa using hb) fa_list_flat hy (by simpa using hb2) fa_list_flat fa_list_one hzf (by simp) (by rw [fa_toList_len, Nat.mul_comm]; exact Nat.le_refl _) hic (by unfold maxLen; omega) h8 (fun hr => ?_) (fun hr cap' hc' => ?_))
    · have hcm : m * (i + 1) ≤ m * c := Nat.mul_le_mul (Nat.le_refl _) hr
      rw [Nat.mul_comm i m, app_room (by omega)]
      refine h k0 c _ (.inr ⟨c, hx⟩) hk0 hr fun q hq => ?_
      unfold putN
      by_cases hq1 : q < m * i
      · rw [if_neg (by omega)]; exact hgG q hq1
      · rw [if_pos (by omega), hev _ (by omega)]; congr 1; omega
    · have hcm : m * i ≤ m * c := Nat.mul_le_mul (Nat.le_refl _) hic
      rw [Nat.mul_comm i m, zeros_fa (k := .i64) hzz, hzs, app_grow (by omega)]
      have em : m * i + m + (cap' - (i + 1)) * m = m * cap' := by
        obtain ⟨x, rfl⟩ : ∃ x, cap' = i + 1 + x := ⟨cap' - (i + 1), by omega⟩
        rw [show i + 1 + x - (i + 1) = x by omega, Nat.mul_add, Nat.mul_add, Nat.mul_one, Nat.mul_comm x m]
      rw [em]
      refine h _ cap' _ (.inl rfl) (by omega) hc' fun q hq => ?_
      unfold catN
      by_cases hq1 : q < m * i
      · rw [if_pos hq1]; exact hgG q hq1
      · rw [if_neg hq1, if_pos (by omega), hev _ (by omega)]; congr 1; omega
theorem FunS.mvL {G : Hp} {f : FuncId} {args args' : Array Value} {m : List (Nat × Blk)} {B : Nat} {R R' : Value → List (Nat × Blk) → Prop} {hp' : Hp} {rs' : List Nat} (h : FunS P G f args (hpL G m) (keys m) R) (hGF : GFlat G) (hm : LOk m B) (ρ : Nat → Nat) (hlow : ∀ k, k < 100 → ρ k = k)
    (ea : args.map (ren ρ) = args') (er : (keys m).map ρ = rs') (eR : RR ρ R = R') (hp0 : ∀ k, k < 100 → hp' k = G k) (hat : ∀ p ∈ m, 100 ≤ ρ p.1 ∧ hp' (ρ p.1) = some (p.2.rn ρ)) (hinj : ∀ k ∈ keys m, ∀ l ∈ keys m, ρ k = ρ l → k = l)
    (hnew : ∀ v ns, R v ns → ∀ k ∈ keys ns, 100 ≤ ρ k ∧ ρ k ∉ rs') (hnj : ∀ v ns, R v ns → ∀ k ∈ keys ns, ∀ l ∈ keys ns, ρ k = ρ l → k = l) : FunS P G f args' hp' rs' R' := by
  subst ea er eR
  refine h.rn ρ hGF hm.low (rn_ofL hm ρ hlow hp0 hat hinj) (fun v ns hR k hk => ?_) hnj
  obtain ⟨h1, h2⟩ := hnew v ns hR k hk
  refine ⟨h1, fun hd => hd ?_⟩
  unfold rst
  rw [if_neg]
  rintro (h3 | h3)
  · omega
  · exact h2 h3
theorem GL_callL {G : Hp} {ops : Array Oper} {o : Oper} {post : List Oper} {base k : Nat} {ts : Nat → Value} {hp hp' : Hp} {yc : Nat} {c : Call} {f : Operand} {g : FuncId} {cap : Array Value} {rs : List Nat} {args : Array Value} {R : Value → List (Nat × Blk) → Prop} (hCG : C.G = G) (hr : FunS P G g args hp' rs R) (hg : o.guard = none) (hd : ∀ dd, o.dst = some dd → dd < n)
    (ho : o.op = .call c) (hc : c.callee = .value f) (hf : okT ts f) (hgf : gev ts f = .func (.func g) #[] cap) (hcp : cap.all plain0 = true) (ha : ∀ x ∈ c.args.toList, okX ts hp x) (hargs : c.args.map (gev ts) ++ cap = args)
    (h1 : ∀ q ∈ rs, hp' q = hp q) (h2 : ∀ q, q < 100 → hp' q = hp q) (hat : ∀ v ns, R v ns → ∀ q ∈ keys ns, base + 8 * k ≤ q ∧ q < base + 8 * k + 8)
    (h : ∀ v ns, R v ns → GL P C n d ro ops base (k + 1) post (putT ts o.dst v) (updL hp ns) yc K) : GL P C n d ro ops base k (o :: post) ts hp yc K := by
  subst hCG
  exact GL_callS hg hd ho hc hf hgf hcp ha hargs hr h1 h2 hat h
end
end Go.Gy
namespace Go.Gy
set_option linter.unusedSimpArgs false
set_option linter.unusedVariables false
open Go Go.RowKit Go.Proofs
def OwnR (nk n : Nat) (f : Nat → Int) (v : Value) (ns : List (Nat × Blk)) : Prop := ∃ (c M : Nat) (g : Nat → Int), n ≤ c ∧ 6 * n ≤ M ∧ (∀ j, j < 6 * n → g j = f j) ∧ v = .slice (some ⟨nk, 0, none⟩) n c ∧ ns = [(nk, ⟨fa M .i64 g, .ty 42⟩)]
theorem fa_fx (M : Nat) (g : Nat → Int) (T : TypeId) : Blk.fx ⟨fa M .i64 g, .ty T⟩ := fun x hx => by
  obtain ⟨m, rfl⟩ := fa_mem hx; rfl
theorem own_fit {b : Blk} {n : Nat} {f : Nat → Int} (v : Value) (ns : List (Nat × Blk)) (h : OwnR 1000 n f v ns) : idsV (extD (fun k => k ∈ keys [(100, b)]) ns) v ∧ (∀ p ∈ ns, 200 ≤ p.1 ∧ p.2.ids (extD (fun k => k ∈ keys [(100, b)]) ns)) ∧ (∀ k b c, (k, b) ∈ ns → (k, c) ∈ ns → b = c) := by
  obtain ⟨c, M, g, h1, h2, h3, rfl, rfl⟩ := h
  refine ⟨by simp [idsV, idsA, idsF, ids0, extD, keys], ?_, ?_⟩
  · simp only [List.mem_singleton, forall_eq]
    exact ⟨by omega, Blk.fx_ids (fa_fx _ _ _) _⟩
  · intro k b c h1 h2
    simp at h1 h2
    rw [h1.2, h2.2]
theorem clone_fun (b : Blk) (off n cap : Nat) (f : Nat → Int) (h : SB b off n f) (hcap : n ≤ cap) :
    FunS Tryd.prog G0 50 #[.slice (some ⟨100, off, none⟩) n cap] (hpL G0 [(100, b)]) (keys [(100, b)]) (OwnR 1000 n f) := by
  refine newS_ofL (B := 200) G0F Tryd.func50 rfl Tryd.call50 (oneL_ok h.fx) ?_ own_fit (by simp [Tryd.ntmps50]) (by omega) ?_
  · simp [idsV, idsA, idsF, ids0, keys]
  intro C hC hC0 hY
  have hnn := h.nn
  have hbrd := Blk.fx_rd h.fx
  repeat' (first | refine gwS ?_ | simp only [wN, wM, Nat.reduceAdd, Nat.reduceMul] | ((first | refine gwR [] ?_ | refine gwD [] ?_); intro Q hQ hP; simp [hC, hY]; (first | refine hQ _ _ _ _ (by kernel_rfl) ?_ | refine hP _ _ (by kernel_rfl) fun _ => ?_); clear hQ hP Q) | refine gwB ?_ | refine gwT ?_ | refine gwK ?_ | refine gwE ?_ | refine gwG ?_ | refine gwL ?_ | simp only [blockG_exit] | (refine gwC ?_ ?_ <;> (intro hb; first | (cases hb; done) | skip)))
  refine GW_list ?_
  simp only [Array.toList]
  refine GL_bs0 rfl (by simp) rfl Tryd.underlying25 (tySize_of Tryd.sizeOf42) ?_
  refine GL_walk 1 [] rfl (by simp) (by kernel_rfl) ?_; intro q hq; simp [hC, hY]; refine hq _ _ _ _ ?_; clear hq q
  simp only [wT, List.length_cons, List.length_nil, Nat.reduceAdd]
  by_cases hn0 : n = 0
  · subst hn0
    refine GL_appZ (p := some (224, 0)) (q := some (100, off)) rfl (by simp) rfl Tryd.underlying25 (tySize_of Tryd.sizeOf42) (by simp; rfl) (by simp; rfl) (Nat.le_refl _) ?_
    refine GL_walk 1 [] rfl (by simp) (by kernel_rfl) ?_; intro q hq; simp [hC, hY, putT]; refine hq _ _ _ _ ?_; clear hq q
    simp only [wT, List.length_cons, List.length_nil, Nat.reduceAdd]
    refine GL_nil ?_
    repeat' (first | refine gwS ?_ | simp only [wN, wM, Nat.reduceAdd, Nat.reduceMul] | ((first | refine gwR [] ?_ | refine gwD [] ?_); intro Q hQ hP; simp [hC, hY]; (first | refine hQ _ _ _ _ (by kernel_rfl) ?_ | refine hP _ _ (by kernel_rfl) fun _ => ?_); clear hQ hP Q) | refine gwB ?_ | refine gwT ?_ | refine gwK ?_ | refine gwE ?_ | refine gwG ?_ | refine gwL ?_ | simp only [blockG_exit] | (refine gwC ?_ ?_ <;> (intro hb; first | (cases hb; done) | skip)))
    refine ⟨.inr trivial, keep_of G0F (by simp) (by (intro k hk; first | rfl | (simp (disch := omega) only [addB, List.mem_cons, List.not_mem_nil, or_false, upd_other, hpL_cons, hpL_nil, if_neg, updL] <;> done))), _, _, fun k => if k = 1000 then 224 else k, ⟨0, 0, f, Nat.le_refl _, by omega, fun _ _ => rfl, rfl, rfl⟩, fun k hk => if_neg (by omega), by simp, by simp, by simp [Tryd.results50, ren, renA, renF, ren0], ?_⟩
    simp [fa, Blk.rn]
  · refine GL_app0 (p := some ⟨224, 0, none⟩) (j := 100) (b2 := b) (off2 := off) (m := n) (m' := cap) (nw := (fa (6 * n) .i64 f).toList) (sz := 6) (by' := 48) (z := .agg #[.int .i64 0, .int .i64 0, .int .i64 0, .int .i64 0, .int .i64 0, .int .i64 0]) rfl (by simp) rfl Tryd.underlying25 (tySize_of Tryd.sizeOf42) ?_ ?_ ?_ ?_ ?_ (rdI_nw h.rd) fa_list_flat (fun q x hx => ?_) (by omega) (by simp; omega) (by unfold maxLen; omega) (by omega) (fun cap' hc' => ?_)
    · kernel_rfl
    · kernel_rfl
    · simp
    · simp
    · simp
    · have := zc_mem hx
      simp [Value.cells] at this
      subst this
      rfl
    · rw [zeros_fa (k := .i64) (by simp), app_new]
      refine GL_walk 1 [] rfl (by simp) (by kernel_rfl) ?_; intro q hq; simp [hC, hY, putT]; refine hq _ _ _ _ ?_; clear hq q
      simp only [wT, List.length_cons, List.length_nil, Nat.reduceAdd]
      refine GL_nil ?_
      repeat' (first | refine gwS ?_ | simp only [wN, wM, Nat.reduceAdd, Nat.reduceMul] | ((first | refine gwR [] ?_ | refine gwD [] ?_); intro Q hQ hP; simp [hC, hY]; (first | refine hQ _ _ _ _ (by kernel_rfl) ?_ | refine hP _ _ (by kernel_rfl) fun _ => ?_); clear hQ hP Q) | refine gwB ?_ | refine gwT ?_ | refine gwK ?_ | refine gwE ?_ | refine gwG ?_ | refine gwL ?_ | simp only [blockG_exit] | (refine gwC ?_ ?_ <;> (intro hb; first | (cases hb; done) | skip)))
      refine ⟨.inr trivial, keep_of G0F (by simp) (by (intro k hk; first | rfl | (simp (disch := omega) only [addB, List.mem_cons, List.not_mem_nil, or_false, upd_other, hpL_cons, hpL_nil, if_neg, updL] <;> done))), _, _, fun k => if k = 1000 then 224 + 16 else k, ⟨cap', 6 * n + (cap' - n) * 6, catN f (6 * n) 0 f, hc', ?_, ?_, rfl, rfl⟩, fun k hk => if_neg (by omega), by simp, by simp, by simp [Tryd.results50, ren, renA, renF, ren0], ?_⟩
      · omega
      · intro j hj
        unfold catN
        rw [if_pos (by omega)]
      · simp only [List.mem_singleton, forall_eq]
        rw [fa_rn]
        simp
def OwnS (nk : Nat) (st : Int) (n : Nat) (f : Nat → Int) (v : Value) (ns : List (Nat × Blk)) : Prop := ∃ (c M : Nat) (g : Nat → Int), n ≤ c ∧ 6 * n ≤ M ∧ (∀ j, j < 6 * n → g j = f j) ∧ v = .agg #[.int .i64 st, .slice (some ⟨nk, 0, none⟩) n c] ∧ ns = [(nk, ⟨fa M .i64 g, .ty 42⟩)]
theorem owns_fit {b : Blk} {st : Int} {n : Nat} {f : Nat → Int} (v : Value) (ns : List (Nat × Blk)) (h : OwnS 1000 st n f v ns) : idsV (extD (fun k => k ∈ keys [(100, b)]) ns) v ∧ (∀ p ∈ ns, 200 ≤ p.1 ∧ p.2.ids (extD (fun k => k ∈ keys [(100, b)]) ns)) ∧ (∀ k b c, (k, b) ∈ ns → (k, c) ∈ ns → b = c) := by
  obtain ⟨c, M, g, h1, h2, h3, rfl, rfl⟩ := h
  refine ⟨by simp [idsV, idsA, idsF, ids0, extD, keys], ?_, ?_⟩
  · simp only [List.mem_singleton, forall_eq]
    exact ⟨by omega, Blk.fx_ids (fa_fx _ _ _) _⟩
  · intro k b c h1 h2
    simp at h1 h2
    rw [h1.2, h2.2]
theorem FunS.own1 {fn : FuncId} {args : Array Value} {b : Blk} {R : Value → List (Nat × Blk) → Prop} (h : FunS Tryd.prog G0 fn args (hpL G0 [(100, b)]) (keys [(100, b)]) R) (hb : b.fx) (nk : Nat) (hnk : 200 ≤ nk) (hR : ∀ v ns, R v ns → ∀ k ∈ keys ns, k = 1000) (ha : args.map (ren fun k => if k = 1000 then nk else k) = args) :
    FunS Tryd.prog G0 fn args (hpL G0 [(100, b)]) [100] (RR (fun k => if k = 1000 then nk else k) R) := by
  have h0 := h.rn (fun k => if k = 1000 then nk else k) G0F (oneL_ok hb).low (hp' := hpL G0 [(100, b)]) (rn_ofL (oneL_ok hb) _ (fun k hk => if_neg (by omega)) (oneL_ok hb).low (by
    simp only [List.mem_singleton, forall_eq]
    refine ⟨by simp, ?_⟩
    rw [Blk.fx_rn hb]; simp) (by simp [keys])) (fun v ns hr k hk => by
    rw [hR v ns hr k hk, if_pos rfl]
    refine ⟨by omega, fun hd => hd ?_⟩
    simp [rst, keys, show ¬ nk = 100 by omega, show ¬ nk < 100 by omega]) (fun v ns hr k hk l hl _ => by rw [hR v ns hr k hk, hR v ns hr l hl])
  rw [ha] at h0
  simpa [keys] using h0
theorem ownR_rr (nk n : Nat) (f : Nat → Int) : RR (fun k => if k = 1000 then nk else k) (OwnR 1000 n f) = OwnR nk n f := by
  funext v ns
  apply propext
  constructor
  · rintro ⟨v0, ns0, ⟨c, M, g, h1, h2, h3, rfl, rfl⟩, rfl, rfl⟩
    exact ⟨c, M, g, h1, h2, h3, by simp [ren, renA, renF, ren0], by simp [rnL, fa_rn]⟩
  · rintro ⟨c, M, g, h1, h2, h3, rfl, rfl⟩
    exact ⟨_, _, ⟨c, M, g, h1, h2, h3, rfl, rfl⟩, by simp [ren, renA, renF, ren0], by simp [rnL, fa_rn]⟩
theorem ownS_rr (nk : Nat) (st : Int) (n : Nat) (f : Nat → Int) : RR (fun k => if k = 1000 then nk else k) (OwnS 1000 st n f) = OwnS nk st n f := by
  funext v ns
  apply propext
  constructor
  · rintro ⟨v0, ns0, ⟨c, M, g, h1, h2, h3, rfl, rfl⟩, rfl, rfl⟩
    exact ⟨c, M, g, h1, h2, h3, by simp [ren, renA, renF, ren0], by simp [rnL, fa_rn]⟩
  · rintro ⟨c, M, g, h1, h2, h3, rfl, rfl⟩
    exact ⟨_, _, ⟨c, M, g, h1, h2, h3, rfl, rfl⟩, by simp [ren, renA, renF, ren0], by simp [rnL, fa_rn]⟩
theorem clone_at (nk : Nat) (hnk : 200 ≤ nk) (b : Blk) (off n cap : Nat) (f : Nat → Int) (h : SB b off n f) (hcap : n ≤ cap) :
    FunS Tryd.prog G0 50 #[.slice (some ⟨100, off, none⟩) n cap] (hpL G0 [(100, b)]) [100] (OwnR nk n f) := by
  have := (clone_fun b off n cap f h hcap).own1 h.fx nk hnk (fun v ns hR k hk => by
    obtain ⟨c, M, g, h1, h2, h3, rfl, rfl⟩ := hR; simpa [keys] using hk) (by simp [ren, renA, renF, ren0])
  rwa [ownR_rr] at this
theorem own_fun (b : Blk) (off n cap : Nat) (f : Nat → Int) (h : SB b off n f) (hcap : n ≤ cap) (st : Int) :
    FunS Tryd.prog G0 32 #[.agg #[.int .i64 st, .slice (some ⟨100, off, none⟩) n cap]] (hpL G0 [(100, b)]) (keys [(100, b)]) (OwnS 1000 st n f) := by
  refine newS_ofL (B := 200) G0F Tryd.func32 rfl Tryd.call32 (oneL_ok h.fx) ?_ owns_fit (by simp [Tryd.ntmps32]) (by omega) ?_
  · simp [idsV, idsA, idsF, ids0, keys]
  intro C hC hC0 hY
  repeat' (first | refine gwS ?_ | simp only [wN, wM, Nat.reduceAdd, Nat.reduceMul] | ((first | refine gwR [] ?_ | refine gwD [] ?_); intro Q hQ hP; simp [hC, hY]; (first | refine hQ _ _ _ _ (by kernel_rfl) ?_ | refine hP _ _ (by kernel_rfl) fun _ => ?_); clear hQ hP Q) | refine gwB ?_ | refine gwT ?_ | refine gwK ?_ | refine gwE ?_ | refine gwG ?_ | refine gwL ?_ | simp only [blockG_exit] | (refine gwC ?_ ?_ <;> (intro hb; first | (cases hb; done) | skip)))
  refine GW_list ?_
  simp only [Array.toList]
  refine GL_walk 2 [] rfl (by simp) (by kernel_rfl) ?_; intro q hq; simp [hC, hY]; refine hq _ _ _ _ ?_; clear hq q
  simp only [wT, List.length_cons, List.length_nil, Nat.reduceAdd]
  refine GL_callS (f := .func 50) (args := #[.slice (some ⟨100, off, none⟩) n cap]) (cap := #[]) rfl (by simp) rfl rfl (by simp [okT]) (by simp [gev]) (by simp) (by simp [okX, junk]) (by simp [gev]) (hC.symm ▸ clone_at 232 (by omega) b off n cap f h hcap) (by simp) (by rw [← hC]; (intro k hk; first | rfl | (simp (disch := omega) only [addB, List.mem_cons, List.not_mem_nil, or_false, upd_other, hpL_cons, hpL_nil, if_neg, updL] <;> done))) ?_ ?_
  · rintro v ns ⟨c, M, g, h1, h2, h3, rfl, rfl⟩
    simp [keys]
  · rintro v ns ⟨c, M, g, h1, h2, h3, rfl, rfl⟩
    refine GL_walk 2 [] rfl (by simp) (by kernel_rfl) ?_; intro q hq; simp [hC, hY, putT, updL]; refine hq _ _ _ _ ?_; clear hq q
    simp only [wT, List.length_cons, List.length_nil, Nat.reduceAdd]
    refine GL_nil ?_
    repeat' (first | refine gwS ?_ | simp only [wN, wM, Nat.reduceAdd, Nat.reduceMul] | ((first | refine gwR [] ?_ | refine gwD [] ?_); intro Q hQ hP; simp [hC, hY]; (first | refine hQ _ _ _ _ (by kernel_rfl) ?_ | refine hP _ _ (by kernel_rfl) fun _ => ?_); clear hQ hP Q) | refine gwB ?_ | refine gwT ?_ | refine gwK ?_ | refine gwE ?_ | refine gwG ?_ | refine gwL ?_ | simp only [blockG_exit] | (refine gwC ?_ ?_ <;> (intro hb; first | (cases hb; done) | skip)))
    refine ⟨.inr trivial, keep_of G0F (by simp) (by (intro k hk; first | rfl | (simp (disch := omega) only [addB, List.mem_cons, List.not_mem_nil, or_false, upd_other, hpL_cons, hpL_nil, if_neg, updL] <;> done))), _, _, fun k => if k = 1000 then 232 else k, ⟨c, M, g, h1, h2, h3, rfl, rfl⟩, fun k hk => if_neg (by omega), by simp, by simp, by simp [Tryd.results32, ren, renA, renF, ren0], ?_⟩
    simp [fa_rn]
theorem own_at (nk : Nat) (hnk : 200 ≤ nk) (b : Blk) (off n cap : Nat) (f : Nat → Int) (h : SB b off n f) (hcap : n ≤ cap) (st : Int) :
    FunS Tryd.prog G0 32 #[.agg #[.int .i64 st, .slice (some ⟨100, off, none⟩) n cap]] (hpL G0 [(100, b)]) [100] (OwnS nk st n f) := by
  have := (own_fun b off n cap f h hcap st).own1 h.fx nk hnk (fun v ns hR k hk => by
    obtain ⟨c, M, g, h1, h2, h3, rfl, rfl⟩ := hR; simpa [keys] using hk) (by simp [ren, renA, renF, ren0])
  rwa [ownS_rr] at this
theorem nilL_ok : LOk [] 200 := ⟨by simp, by simp [keys], by simp⟩
def stB' (st : Int) (k off n cap : Nat) : Blk := ⟨#[.int .i64 st, .slice (some ⟨k, off, none⟩) n cap], .ty 27⟩
end Go.Gy
namespace Go.Gy
set_option linter.unusedSimpArgs false
set_option linter.unusedVariables false
open Go Go.RowKit Go.Proofs
theorem stB'_rn {st : Int} {k off n cap : Nat} {ρ : Nat → Nat} : (stB' st k off n cap).rn ρ = stB' st (ρ k) off n cap := by simp [stB', Blk.rn, renF, ren0]
end Go.Gy
namespace Go.Gy
open Go Go.RowKit Go.Proofs
theorem inV_iff {m x y z : Int} : inV m x y z = true ↔ inW m x ∧ inW m y ∧ inW m z := by unfold inV; exact decide_eq_true_iff
theorem right_n {st : Int} {f : Nat → Int} {n : Nat} (h : rightB st f n = true) : (-1073741824 ≤ st ∧ st ≤ 1073741824) ∧ (1 ≤ n ∧ n ≤ 4) ∧ ∀ i, i < n → inB 1048576 65536 f i = true := by
  unfold rightB stB at h
  simp only [Bool.and_eq_true, decide_eq_true_eq] at h
  exact ⟨h.1.1, h.1.2, allB_iff.1 h.2⟩
theorem right_b {st : Int} {f : Nat → Int} {n : Nat} (h : rightB st f n = true) {i : Nat} (hi : i < n) : (inW 1048576 (f (6 * i)) ∧ inW 1048576 (f (6 * i + 1)) ∧ inW 1048576 (f (6 * i + 2))) ∧ (inW 65536 (f (6 * i + 3)) ∧ inW 65536 (f (6 * i + 4)) ∧ inW 65536 (f (6 * i + 5))) := by
  have := (right_n h).2.2 i hi
  unfold inB at this
  rw [Bool.and_eq_true, inV_iff, inV_iff] at this
  exact this
theorem eaE_or (op : Int → Int → Int) (a0 a1 a2 b0 b1 b2 : Int) : eaE op a0 a1 a2 b0 b1 b2 = 0 ∨ eaE op a0 a1 a2 b0 b1 b2 = 20 := by unfold eaE; split <;> simp
theorem ok_over {x0 x1 x2 w0 w1 w2 : Int} (h0 : inW 1048576 x0) (h1 : inW 1048576 x1) (h2 : inW 1048576 x2) (he : eaE addI x0 x1 x2 w0 w1 w2 = 20) : inV 1048576 (x0 + w0) (x1 + w1) (x2 + w2) = false := by
  cases hb : inV 1048576 (x0 + w0) (x1 + w1) (x2 + w2) with
  | false => rfl
  | true =>
    rw [inV_iff] at hb
    unfold eaE at he
    rw [if_pos] at he
    · exact absurd he (by decide)
    · unfold inW at *
      unfold fnI addI
      omega
def DriftR (nk : Nat) (st : Int) (n : Nat) (F : Nat → Int) (E : Int) (v : Value) (ns : List (Nat × Blk)) : Prop := ∃ v0, OwnS nk st n F v0 ns ∧ v = .tuple #[v0, .int .i64 E]
theorem driftR_fit {b : Blk} {st : Int} {n : Nat} {F : Nat → Int} {E : Int} (v : Value) (ns : List (Nat × Blk)) (h : DriftR 1000 st n F E v ns) : idsV (extD (fun k => k ∈ keys [(100, b)]) ns) v ∧ (∀ p ∈ ns, 200 ≤ p.1 ∧ p.2.ids (extD (fun k => k ∈ keys [(100, b)]) ns)) ∧ (∀ k b c, (k, b) ∈ ns → (k, c) ∈ ns → b = c) := by
  obtain ⟨v0, hV, rfl⟩ := h
  obtain ⟨f1, f2, f3⟩ := owns_fit (b := b) v0 ns hV
  refine ⟨?_, f2, f3⟩
  obtain ⟨c, M, g, h1, h2, h3, rfl, rfl⟩ := hV
  simp [idsV, idsA, idsF, ids0, extD, keys]
end Go.Gy
namespace Go.Gy
set_option linter.unusedSimpArgs false
open Go Go.RowKit
section
variable {P : Program} {C : Ctx} {n : Nat} {d : List Deferred} {ro : Option Nat} {s : GS} {K : Exit → GS → Prop}
structure AFree (ops : Array Oper) (base : Nat) (listed : Array Bool) (hp : Hp) : Prop where
  at' : ∀ i, listed[i]? = some false → ∀ x, base + 8 * i ≤ x → x < base + 8 * i + 8 → hp x = none
  up : ∀ x, base + 8 * ops.size ≤ x → hp x = none
def GA (P : Program) (C : Ctx) (n : Nat) (d : List Deferred) (ro : Option Nat) (ops : Array Oper) (base : Nat) (fuel : Nat) (listed : Array Bool) (ts : Nat → Value) (hp : Hp) (yc : Nat) (K : Exit → GS → Prop) : Prop :=
  ∀ r a W, RI C n d r ts hp yc a W → AFree ops base listed hp → 100 ≤ base → GFlat C.G → (∀ y, C.Y = some y → Rounds P C.G C.E y) → wpAnyIn (Fw P ro) 0 P .any ops (fun e a' W' => ∃ s' r', K e s' ∧ GI P C n d r' s' a' W') fuel listed a W
def GO (P : Program) (C : Ctx) (n : Nat) (d : List Deferred) (ro : Option Nat) (ops : Array Oper) (base : Nat) (fuel : Nat) (listed : Array Bool) (i : Nat) (ts : Nat → Value) (hp : Hp) (yc : Nat) (K : Exit → GS → Prop) : Prop :=
  ∀ r a W, RI C n d r ts hp yc a W → AFree ops base listed hp → 100 ≤ base → GFlat C.G → (∀ y, C.Y = some y → Rounds P C.G C.E y) → wpOpIn (Fw P ro) 0 P ops (fun e a' W' => ∃ s' r', K e s' ∧ GI P C n d r' s' a' W') i (wpAnyIn (Fw P ro) 0 P .any ops (fun e a' W' => ∃ s' r', K e s' ∧ GI P C n d r' s' a' W') fuel (listed.setIfInBounds i true)) a W
theorem GW_any {id : Nat} {l : List Oper} (hm : P.follows .mixedOrders = true) (h : GA P C n d ro l.toArray s.B l.length (Array.replicate l.length false) s.ts s.hp s.yc K) : GW P C n d ro (.region id l.toArray true) s K := fun r a W hi =>
  wpIn_region_any hm (by
    have := h r a _ hi.ri.drew ⟨fun i _ x hx _ => hi.free x (by omega), fun x hx => hi.free x (by omega)⟩ hi.low hi.flat hi.rounds
    simpa using this)
theorem GA_nil {ops : Array Oper} {base fuel : Nat} {listed : Array Bool} {ts : Nat → Value} {hp : Hp} {yc : Nat} (hr : Region.ready .any ops listed = []) (h : K .normal ⟨ts, hp, base + 8 * ops.size, yc⟩) : GA P C n d ro ops base fuel listed ts hp yc K := fun r a W hi hf hb hG hR => by
  have hq : ∃ s' r', K .normal s' ∧ GI P C n d r' s' a W := ⟨⟨ts, hp, _, yc⟩, r, h, hi, hf.up, by show 100 ≤ base + 8 * ops.size; omega, hG, hR⟩
  cases fuel with
  | zero => exact ⟨hr, hq⟩
  | succ k => exact ⟨fun _ => hq, fun i hi => by rw [hr] at hi; cases hi⟩
theorem GA_step {ops : Array Oper} {base fuel : Nat} {listed : Array Bool} {ts : Nat → Value} {hp : Hp} {yc : Nat} (l : List Nat) (hr : Region.ready .any ops listed = l) (hl : l.isEmpty = false) (h : ∀ i ∈ l, GO P C n d ro ops base fuel listed i ts hp yc K) : GA P C n d ro ops base (fuel + 1) listed ts hp yc K := fun r a W hi hf hb hG hR => by
  refine ⟨fun h0 => ?_, fun i hm => h i (by rw [← hr]; exact hm) r a W hi hf hb hG hR⟩
  rw [hr] at h0; rw [h0] at hl; cases hl
theorem AFree.after {ops : Array Oper} {base : Nat} {listed : Array Bool} {hp hp' : Hp} (h : AFree ops base listed hp) {i : Nat} (hi : i < ops.size) (e : ∀ x, hp x = none → ¬ (base + 8 * i ≤ x ∧ x < base + 8 * i + 8) → hp' x = none) : AFree ops base (listed.setIfInBounds i true) hp' := by
  refine ⟨fun j hj x h1 h2 => ?_, fun x hx => e x (h.up x hx) (by omega)⟩
  rw [Array.getElem?_setIfInBounds] at hj
  split at hj
  · split at hj <;> cases hj
  · exact e x (h.at' j hj x h1 h2) (by omega)
theorem GO_walk {l0 : List Oper} {o : Oper} {post : List Oper} {base i fuel : Nat} {listed : Array Bool} {ts : Nat → Value} {hp : Hp} {yc : Nat} (pn : List FuncId) (hl : l0.drop i = o :: post) (hdst : (dstOk n [o] && unOk P [o]) = true) (hi : listed[i]? = some false)
    (h : ∀ q : (Nat → Value) → Hp → Tr → Nat → Prop, (∀ ts hp tr yc, GA P C n d ro l0.toArray base fuel (listed.setIfInBounds i true) ts hp yc K → q ts hp tr yc) →
      lexS P C.G ⟨C.Y, pn, false⟩ base ⟨q, fun _ _ => False⟩ ((l0.take i).map (·.dst)).reverse i [o] ts hp [] yc true false) : GO P C n d ro l0.toArray base fuel listed i ts hp yc K := by
  intro r a W hRI hf hb hG hR
  simp only [Bool.and_eq_true] at hdst
  have hok := And.intro (dstOk_spec hdst.1 (List.mem_singleton.2 rfl)) (unOk_spec hdst.2 o (List.mem_singleton.2 rfl))
  have hi0 : l0[i]? = some o := by
    have := congrArg (fun l => l[0]?) hl
    simpa [List.getElem?_drop] using this
  have hlt : i < l0.length := (List.getElem?_eq_some_iff.1 hi0).1
  have hh := h (fun ts hp _ yc => GA P C n d ro l0.toArray base fuel (listed.setIfInBounds i true) ts hp yc K) (fun _ _ _ _ a => a)
  have ek : (l0.take i).length = i := by simp; omega
  have hx : lexX P C.G ⟨C.Y, pn, false⟩ l0.toArray base (fun ts hp _ yc => GA P C n d ro l0.toArray base fuel (listed.setIfInBounds i true) ts hp yc K) (fun _ _ => False) i [o] ts hp [] yc true false := by
    refine lexX_of_lexS' (Q := ⟨_, fun _ _ => False⟩) [o] _ i _ _ _ _ _ _ (fun j hj => ?_) (fun j hj => ?_) hh
    · rw [List.getElem?_reverse (by simp; omega)]
      simp only [List.length_map, ek, List.getElem?_map, List.getElem?_toArray]
      rw [show i - 1 - (i - 1 - j) = j by omega, List.getElem?_take, if_pos hj]
      cases l0[j]? <;> rfl
    · obtain rfl : j = 0 := by simpa using hj
      simp [hi0]
  have hfree : ∀ x, base + 8 * i ≤ x → x < base + 8 * i + 8 → hp x = none := hf.at' i hi
  unfold wpOpIn
  rw [List.getElem?_toArray, hi0]
  simp only
  simp only [lexX] at hx
  cases hw : wantedG l0.toArray o ts with
  | none => rw [hw] at hx; exact hx.elim
  | some b =>
    rw [hw] at hx
    rw [wantedG_eq hRI.rel hw]
    cases b with
    | true =>
      simp only at hx
      simp only [if_true]
      obtain ⟨e, h1, hs, hyd, h3⟩ := opX_sound hG hRI.glob hx
      refine meets hG hR o e ts hp yc r a W 0 _ _ hRI hok.1 h1 (fun x hx => (hs.ws x hx).2) (fun x hx => ?_) (fun r' a' W' hpn hi' => ?_) (fun pv W' yc' hpn hi' => ?_)
      · have := hs.ns x hx; exact ⟨hfree x (by omega) (by omega), by omega⟩
      · rw [hpn] at h3
        refine h3 r' a' W' hi' (hf.after (by simpa using hlt) fun x hx0 hx1 => ?_) hb hG hR
        rw [updL_other (fun hm => ?_)]
        · exact hx0
        · have : x ∈ keys e.ws ∨ x ∈ keys e.ns := by simpa [keys] using hm
          rcases this with h | h
          · exact (hs.ws x h).2.1 hx0
          · have := hs.ns x h; omega
      · rw [hpn] at h3
        exact h3.2.2.elim
    | false =>
      simp only at hx
      simp only [Bool.false_eq_true, if_false]
      exact ⟨meetsU (Y := none) o ts r _ a W hRI.rel ⟨hx.1, hok.2⟩, hx.2 r _ W (hRI.put_undef hok.1.1) (hf.after (by simpa using hlt) fun x hx0 _ => hx0) hb hG hR⟩
theorem GO_callL {G : Hp} {ops : Array Oper} {o : Oper} {base i fuel : Nat} {listed : Array Bool} {ts : Nat → Value} {hp hp' : Hp} {yc : Nat} {c : Call} {f : Operand} {g : FuncId} {cap : Array Value} {rs : List Nat} {args : Array Value} {R : Value → List (Nat × Blk) → Prop} (hCG : C.G = G) (hr : FunS P G g args hp' rs R) (hio : ops[i]? = some o) (hi : listed[i]? = some false) (hg : o.guard = none) (hd : ∀ dd, o.dst = some dd → dd < n)
    (ho : o.op = .call c) (hc : c.callee = .value f) (hf : okT ts f) (hgf : gev ts f = .func (.func g) #[] cap) (hcp : cap.all plain0 = true) (ha : ∀ x ∈ c.args.toList, okX ts hp x) (hargs : c.args.map (gev ts) ++ cap = args)
    (h1 : ∀ q ∈ rs, hp' q = hp q) (h2 : ∀ q, q < 100 → hp' q = hp q) (hat : ∀ v ns, R v ns → ∀ q ∈ keys ns, base + 8 * i ≤ q ∧ q < base + 8 * i + 8)
    (h : ∀ v ns, R v ns → GA P C n d ro ops base fuel (listed.setIfInBounds i true) (putT ts o.dst v) (updL hp ns) yc K) : GO P C n d ro ops base fuel listed i ts hp yc K := by
  subst hCG
  intro r a W hRI hfr hb hG hR
  unfold wpOpIn
  rw [hio]
  simp only [Region.wanted, hg, if_true]
  refine step_callS hG hRI hd ho hc hf hgf hcp ha (by rw [hargs]; exact hr.under fun q hq => hq.elim (h2 q) (h1 q)) (fun v ns hRv q hq => hfr.at' i hi q (hat v ns hRv q hq).1 (hat v ns hRv q hq).2) (fun v ns hRv r' a' W' hi' => h v ns hRv r' a' W' hi' (hfr.after (Array.getElem?_eq_some_iff.1 hio).1 fun x hx hx1 => ?_) hb hG hR)
  rw [updL_other (fun hm => hx1 (hat v ns hRv x hm))]
  exact hx
theorem all_two {p : Nat → Prop} {a b : Nat} (h1 : p a) (h2 : p b) : ∀ i ∈ [a, b], p i := fun i hi => by
  simp at hi
  rcases hi with rfl | rfl
  · exact h1
  · exact h2
theorem all_one {p : Nat → Prop} {a : Nat} (h1 : p a) : ∀ i ∈ [a], p i := fun i hi => by
  simp at hi
  subst hi
  exact h1
end
end Go.Gy
namespace Go.Gy
set_option linter.unusedSimpArgs false
set_option linter.unusedVariables false
open Go Go.RowKit Go.Proofs
theorem ea_in {x0 x1 x2 w0 w1 w2 : Int} (he : eaE addI x0 x1 x2 w0 w1 w2 = 0) : i64 (addI x0 w0) ∧ i64 (addI x1 w1) ∧ i64 (addI x2 w2) := by
  unfold eaE at he
  split at he
  · rename_i h
    obtain ⟨_, h0, h1, h2⟩ := h
    unfold fnI at h0 h1 h2
    exact ⟨⟨by omega, by omega⟩, ⟨by omega, by omega⟩, ⟨by omega, by omega⟩⟩
  · cases he
theorem eaV_0 (z : Int) : eaV 0 z = z := by simp [eaV]
theorem driftR_rr {nk nk' n : Nat} {st E : Int} {F : Nat → Int} {ρ : Nat → Nat} (h : ρ nk = nk') : RR ρ (DriftR nk st n F E) = DriftR nk' st n F E := by
  funext v ns
  apply propext
  constructor
  · rintro ⟨v0, ns0, ⟨w, ⟨c, M, g, h1, h2, h3, rfl, rfl⟩, rfl⟩, rfl, rfl⟩
    exact ⟨_, ⟨c, M, g, h1, h2, h3, rfl, by simp [rnL, fa_rn, h]⟩, by simp [ren, renA, renF, ren0, h]⟩
  · rintro ⟨w, ⟨c, M, g, h1, h2, h3, rfl, rfl⟩, rfl⟩
    exact ⟨_, _, ⟨_, ⟨c, M, g, h1, h2, h3, rfl, rfl⟩, rfl⟩, by simp [ren, renA, renF, ren0, h], by simp [rnL, fa_rn, h]⟩
theorem driftR_key {nk n : Nat} {st E : Int} {F : Nat → Int} {v : Value} {ns : List (Nat × Blk)} (h : DriftR nk st n F E v ns) : ∀ k ∈ keys ns, k = nk := by
  obtain ⟨w, ⟨c, M, g, h1, h2, h3, rfl, rfl⟩, rfl⟩ := h
  simp [keys]
def nn2 (nb nk k : Nat) : Nat := if k = 100 then nb else if k = 1000 then nk else k
theorem nn2_low {nb nk : Nat} (k : Nat) (hk : k < 100) : nn2 nb nk k = k := by
  unfold nn2
  rw [if_neg (by omega), if_neg (by omega)]
theorem nn2_b {nb nk : Nat} : nn2 nb nk 100 = nb := by simp [nn2]
theorem nn2_k {nb nk : Nat} : nn2 nb nk 1000 = nk := by simp [nn2]
theorem at_low {nb : Nat} {b : Blk} (h : 100 ≤ nb) (k : Nat) (hk : k < 100) : hpL G0 [(nb, b)] k = G0 k := by
  simp only [hpL_cons, hpL_nil]
  rw [if_neg (by omega)]
theorem i64_n {z : Int} (h : -9223372036854775808 ≤ z ∧ z ≤ 9223372036854775807) : i64 z := ⟨by omega, by omega⟩
abbrev Pr := Int × Int × Int
def sqF (f : Nat → Int) (i j : Nat) : Int := f2V (f (6 * i)) (f (6 * i + 1)) (f (6 * i + 2)) (f (6 * j)) (f (6 * j + 1)) (f (6 * j + 2))
def prOf (f : Nat → Int) (i j : Nat) : Pr := ((i : Int), (j : Int), sqF f i j)
def prsN (f : Nat → Int) : Nat → List Pr
  | 2 => [prOf f 0 1]
  | 3 => [prOf f 0 1, prOf f 0 2, prOf f 1 2]
  | 4 => [prOf f 0 1, prOf f 0 2, prOf f 0 3, prOf f 1 2, prOf f 1 3, prOf f 2 3]
  | _ => []
def prs (st : Int) (f : Nat → Int) (n : Nat) : List Pr := if rightB st f n = true then prsN f n else []
def prV (p : Pr) : Value := .agg #[.int .i64 p.1, .int .i64 p.2.1, .int .i64 p.2.2]
def prXs (l : List Pr) : List (Array Value) := l.map fun p => #[prV p]
theorem prXs_len (l : List Pr) : (prXs l).length = l.length := by simp [prXs]
theorem pr_n {st : Int} {f : Nat → Int} {n : Nat} (h : rightB st f n = true) : n = 1 ∨ n = 2 ∨ n = 3 ∨ n = 4 := by
  have := (right_n h).2.1
  omega
theorem SB.bodyAt {b : Blk} {off n : Nat} {f : Nat → Int} (h : SB b off n f) (i : Nat) (hi : i < n) (o : Nat) (e : o = off + i * 6) : loadK Tryd.prog 42 b o = some (.agg #[.int .i64 (f (6 * i)), .int .i64 (f (6 * i + 1)), .int .i64 (f (6 * i + 2)), .int .i64 (f (6 * i + 3)), .int .i64 (f (6 * i + 4)), .int .i64 (f (6 * i + 5))]) := by rw [e]; exact h.body hi
def PairsR (nk : Nat) (st : Int) (off n cap : Nat) (v : Value) (ns : List (Nat × Blk)) : Prop := v = .func (.func 41) #[] #[.pointer (some ⟨nk, 0, none⟩)] ∧ ns = [(nk, stB' st 100 off n cap)]
theorem pairs_fun (b : Blk) (off n cap : Nat) (hb : b.fx) (st : Int) :
    FunS Tryd.prog G0 26 #[.agg #[.int .i64 st, .slice (some ⟨100, off, none⟩) n cap]] (hpL G0 [(100, b)]) (keys [(100, b)]) (PairsR 1000 st off n cap) := by
  refine newS_ofL (B := 200) G0F Tryd.func26 rfl Tryd.call26 (oneL_ok hb) ?_ ?_ (by simp [Tryd.ntmps26]) (by omega) ?_
  · simp [idsV, idsA, idsF, ids0, keys]
  · rintro v ns ⟨rfl, rfl⟩
    refine ⟨by simp [idsV, idsA, idsF, ids0, extD, keys], by simp [stB', ids_lit, idsF, ids0, extD, keys], ?_⟩
    intro k b c h1 h2
    simp at h1 h2
    rw [h1.2, h2.2]
  intro C hC hC0 hY
  repeat' (first | refine gwS ?_ | simp only [wN, wM, Nat.reduceAdd, Nat.reduceMul] | ((first | refine gwR [] ?_ | refine gwD [] ?_); intro Q hQ hP; simp [hC, hY]; (first | refine hQ _ _ _ _ (by kernel_rfl) ?_ | refine hP _ _ (by kernel_rfl) fun _ => ?_); clear hQ hP Q) | refine gwB ?_ | refine gwT ?_ | refine gwK ?_ | refine gwE ?_ | refine gwG ?_ | refine gwL ?_ | simp only [blockG_exit] | (refine gwC ?_ ?_ <;> (intro hb; first | (cases hb; done) | skip)))
  refine ⟨.inr trivial, keep_of G0F (by simp) (by (intro k hk; first | rfl | (simp (disch := omega) only [addB, List.mem_cons, List.not_mem_nil, or_false, upd_other, hpL_cons, hpL_nil, if_neg, updL] <;> done))), _, _, fun k => if k = 1000 then 200 else k, ⟨rfl, rfl⟩, fun k hk => if_neg (by omega), by simp, by simp, by simp [Tryd.results26, ren, renA, renF, ren0], ?_⟩
  simp [stB', Blk.rn, renF, ren0]
def prL (b : Blk) (st : Int) (off n cap : Nat) : List (Nat × Blk) := [(100, stB' st 108 off n cap), (108, b)]
theorem prL_ok {b : Blk} (hb : b.fx) (st : Int) (off n cap : Nat) : LOk (prL b st off n cap) 200 := ⟨by simp [prL], by simp [prL, keys], by
  simp only [prL, List.mem_cons, List.not_mem_nil, or_false, forall_eq_or_imp, forall_eq]
  exact ⟨by simp [stB', ids_lit, idsF, ids0, keys], Blk.fx_ids hb _⟩⟩
set_option maxRecDepth 20000 in
set_option maxHeartbeats 4000000 in
theorem pairs_it0 (b : Blk) (off n cap : Nat) (f : Nat → Int) (h : SB b off n f) (hcap : n ≤ cap) (st : Int) (hs : i64 st) (c0 : rightB st f n = false) :
    IterK Tryd.prog G0 41 #[.pointer (some ⟨100, 0, none⟩)] (hpL G0 (prL b st off n cap)) (keys (prL b st off n cap)) (prXs []) := by
  have hL := prL_ok h.fx st off n cap
  have hlt : ∀ k, dom (hpL G0 (prL b st off n cap)) k → k < 200 := fun k hk => Classical.byContradiction fun h1 => hk (hL.free G0F (by omega) k (by omega))
  refine iterk_ofL (B := 200) (v := .tuple #[]) G0F Tryd.func41 rfl Tryd.call41 hL ?_ (by simp [Tryd.ntmps41]) (by omega) ?_
  · simp [idsV, idsA, idsF, ids0, prL, keys]
  intro C l stop hC hC0 hY
  have hr := fun ρ => Blk.fx_rn h.fx ρ
  have exs : prXs [] = [] := rfl
  rw [exs] at hY ⊢
  unfold prL stB'
  repeat' (first | refine gwS ?_ | refine GWL_start ?_ | refine GWL_step ?_ | simp only [wN, wM, Nat.reduceAdd, Nat.reduceMul] | ((first | refine gwR [30] ?_ | refine gwD [30] ?_); intro Q hQ hP; simp [hC, hY, c0]; (repeat ((first | (refine heapK_mv (rig_fun b off n cap f h st hs) G0F (B := 200) (oneL_ok h.fx) (fun k => if k = 100 then 108 else k) (fun k hk => if_neg (by omega)) (by simp [ren, renA, renF, ren0]) (by simp) (by simp [hr]) (by simp [keys]) (by simp [keys]; rfl) ?_)); try simp [hC, hY, c0])); (first | refine hQ _ _ _ _ (by kernel_rfl) ?_ | refine hP _ _ (by kernel_rfl) fun _ => ?_); clear hQ hP Q) | refine gwB ?_ | refine gwT ?_ | refine gwK ?_ | refine gwE ?_ | refine gwG ?_ | refine gwL ?_ | simp only [blockG_exit] | (refine gwC ?_ ?_ <;> (intro hb; first | (cases hb; done) | skip)))
  refine ⟨?_, ?_, ?_, fun k hk => ?_⟩
  · simp
  · simp [Tryd.results41]
  · first | trivial | omega | (simp; done) | (simp; omega)
  · have hk := hlt k hk
    first | rfl | (simp (disch := omega) only [upd_other] <;> rfl)
set_option maxRecDepth 20000 in
set_option maxHeartbeats 4000000 in
theorem pairs_it1 (b : Blk) (off cap : Nat) (f : Nat → Int) (h : SB b off 1 f) (hcap : 1 ≤ cap) (st : Int) (hs : i64 st) (c0 : rightB st f 1 = true) :
    IterK Tryd.prog G0 41 #[.pointer (some ⟨100, 0, none⟩)] (hpL G0 (prL b st off 1 cap)) (keys (prL b st off 1 cap)) (prXs (prsN f 1)) := by
  have hL := prL_ok h.fx st off 1 cap
  have hlt : ∀ k, dom (hpL G0 (prL b st off 1 cap)) k → k < 200 := fun k hk => Classical.byContradiction fun h1 => hk (hL.free G0F (by omega) k (by omega))
  refine iterk_ofL (B := 200) (v := .tuple #[]) G0F Tryd.func41 rfl Tryd.call41 hL ?_ (by simp [Tryd.ntmps41]) (by omega) ?_
  · simp [idsV, idsA, idsF, ids0, prL, keys]
  intro C l stop hC hC0 hY
  have hr := fun ρ => Blk.fx_rn h.fx ρ
  have exs : prXs (prsN f 1) = [] := rfl
  rw [exs] at hY ⊢
  have b0 := h.bodyAt 0 (by omega) (off) (by omega)
  simp only [Nat.reduceMul, Nat.reduceAdd, Nat.mul_zero, Nat.zero_add] at b0
  unfold prL stB'
  repeat' (first | refine gwS ?_ | refine GWL_start ?_ | refine GWL_step ?_ | simp only [wN, wM, Nat.reduceAdd, Nat.reduceMul] | ((first | refine gwR [30] ?_ | refine gwD [30] ?_); intro Q hQ hP; simp [hC, hY, c0, b0]; (repeat ((first | (refine heapK_mv (rig_fun b off 1 cap f h st hs) G0F (B := 200) (oneL_ok h.fx) (fun k => if k = 100 then 108 else k) (fun k hk => if_neg (by omega)) (by simp [ren, renA, renF, ren0]) (by simp) (by simp [hr]) (by simp [keys]) (by simp [keys]; rfl) ?_)); try simp [hC, hY, c0, b0])); (first | refine hQ _ _ _ _ (by kernel_rfl) ?_ | refine hP _ _ (by kernel_rfl) fun _ => ?_); clear hQ hP Q) | refine gwB ?_ | refine gwT ?_ | refine gwK ?_ | refine gwE ?_ | refine gwG ?_ | refine gwL ?_ | simp only [blockG_exit] | (refine gwC ?_ ?_ <;> (intro hb; first | (cases hb; done) | skip)))
  refine ⟨?_, ?_, ?_, fun k hk => ?_⟩
  · simp
  · simp [Tryd.results41]
  · first | trivial | omega | (simp; done) | (simp; omega)
  · have hk := hlt k hk
    first | rfl | (simp (disch := omega) only [upd_other] <;> rfl)
set_option maxRecDepth 20000 in
set_option maxHeartbeats 4000000 in
theorem pairs_it2 (b : Blk) (off cap : Nat) (f : Nat → Int) (h : SB b off 2 f) (hcap : 2 ≤ cap) (st : Int) (hs : i64 st) (c0 : rightB st f 2 = true) :
    IterK Tryd.prog G0 41 #[.pointer (some ⟨100, 0, none⟩)] (hpL G0 (prL b st off 2 cap)) (keys (prL b st off 2 cap)) (prXs (prsN f 2)) := by
  have hL := prL_ok h.fx st off 2 cap
  have hlt : ∀ k, dom (hpL G0 (prL b st off 2 cap)) k → k < 200 := fun k hk => Classical.byContradiction fun h1 => hk (hL.free G0F (by omega) k (by omega))
  refine iterk_ofL (B := 200) (v := .tuple #[]) G0F Tryd.func41 rfl Tryd.call41 hL ?_ (by simp [Tryd.ntmps41]) (by omega) ?_
  · simp [idsV, idsA, idsF, ids0, prL, keys]
  intro C l stop hC hC0 hY
  have hr := fun ρ => Blk.fx_rn h.fx ρ
  have exs : prXs (prsN f 2) = [#[.agg #[.int .i64 0, .int .i64 1, .int .i64 (f2V (f 0) (f 1) (f 2) (f 6) (f 7) (f 8))]]] := rfl
  rw [exs] at hY ⊢
  have k1 : ¬ cap = 1 := by omega
  have b0 := h.bodyAt 0 (by omega) (off) (by omega)
  simp only [Nat.reduceMul, Nat.reduceAdd, Nat.mul_zero, Nat.zero_add] at b0
  have b1 := h.bodyAt 1 (by omega) (off + 6) (by omega)
  simp only [Nat.reduceMul, Nat.reduceAdd, Nat.mul_zero, Nat.zero_add] at b1
  unfold prL stB'
  by_cases hst : 1 ≤ stop
  · have q0 : (0 != stop) = true := by simp; omega
    repeat' (first | refine gwS ?_ | refine GWL_start ?_ | refine GWL_step ?_ | simp only [wN, wM, Nat.reduceAdd, Nat.reduceMul] | ((first | refine gwR [30] ?_ | refine gwD [30] ?_); intro Q hQ hP; simp [hC, hY, c0, k1, b0, b1, q0, hst]; (repeat ((first | (refine heapK_mv (rig_fun b off 2 cap f h st hs) G0F (B := 200) (oneL_ok h.fx) (fun k => if k = 100 then 108 else k) (fun k hk => if_neg (by omega)) (by simp [ren, renA, renF, ren0]) (by simp) (by simp [hr]) (by simp [keys]) (by simp [keys]; rfl) ?_)); try simp [hC, hY, c0, k1, b0, b1, q0, hst])); (first | refine hQ _ _ _ _ (by kernel_rfl) ?_ | refine hP _ _ (by kernel_rfl) fun _ => ?_); clear hQ hP Q) | refine gwB ?_ | refine gwT ?_ | refine gwK ?_ | refine gwE ?_ | refine gwG ?_ | refine gwL ?_ | simp only [blockG_exit] | (refine gwC ?_ ?_ <;> (intro hb; first | (cases hb; done) | skip)))
    refine ⟨?_, ?_, ?_, fun k hk => ?_⟩
    · simp
    · simp [Tryd.results41]
    · first | trivial | omega | (simp; done) | (simp; omega)
    · have hk := hlt k hk
      first | rfl | (simp (disch := omega) only [upd_other] <;> rfl)
  · have : stop = 0 := by omega
    rcases this with rfl
    all_goals
      repeat' (first | refine gwS ?_ | refine GWL_start ?_ | refine GWL_step ?_ | simp only [wN, wM, Nat.reduceAdd, Nat.reduceMul] | ((first | refine gwR [30] ?_ | refine gwD [30] ?_); intro Q hQ hP; simp [hC, hY, c0, k1, b0, b1]; (repeat ((first | (refine heapK_mv (rig_fun b off 2 cap f h st hs) G0F (B := 200) (oneL_ok h.fx) (fun k => if k = 100 then 108 else k) (fun k hk => if_neg (by omega)) (by simp [ren, renA, renF, ren0]) (by simp) (by simp [hr]) (by simp [keys]) (by simp [keys]; rfl) ?_)); try simp [hC, hY, c0, k1, b0, b1])); (first | refine hQ _ _ _ _ (by kernel_rfl) ?_ | refine hP _ _ (by kernel_rfl) fun _ => ?_); clear hQ hP Q) | refine gwB ?_ | refine gwT ?_ | refine gwK ?_ | refine gwE ?_ | refine gwG ?_ | refine gwL ?_ | simp only [blockG_exit] | (refine gwC ?_ ?_ <;> (intro hb; first | (cases hb; done) | skip)))
    all_goals
      refine ⟨?_, ?_, ?_, fun k hk => ?_⟩
      · simp
      · simp [Tryd.results41]
      · first | trivial | omega | (simp; done) | (simp; omega)
      · have hk := hlt k hk
        first | rfl | (simp (disch := omega) only [upd_other] <;> rfl)
set_option maxRecDepth 20000 in
set_option maxHeartbeats 4000000 in
theorem pairs_it3 (b : Blk) (off cap : Nat) (f : Nat → Int) (h : SB b off 3 f) (hcap : 3 ≤ cap) (st : Int) (hs : i64 st) (c0 : rightB st f 3 = true) :
    IterK Tryd.prog G0 41 #[.pointer (some ⟨100, 0, none⟩)] (hpL G0 (prL b st off 3 cap)) (keys (prL b st off 3 cap)) (prXs (prsN f 3)) := by
  have hL := prL_ok h.fx st off 3 cap
  have hlt : ∀ k, dom (hpL G0 (prL b st off 3 cap)) k → k < 200 := fun k hk => Classical.byContradiction fun h1 => hk (hL.free G0F (by omega) k (by omega))
  refine iterk_ofL (B := 200) (v := .tuple #[]) G0F Tryd.func41 rfl Tryd.call41 hL ?_ (by simp [Tryd.ntmps41]) (by omega) ?_
  · simp [idsV, idsA, idsF, ids0, prL, keys]
  intro C l stop hC hC0 hY
  have hr := fun ρ => Blk.fx_rn h.fx ρ
  have exs : prXs (prsN f 3) = [#[.agg #[.int .i64 0, .int .i64 1, .int .i64 (f2V (f 0) (f 1) (f 2) (f 6) (f 7) (f 8))]], #[.agg #[.int .i64 0, .int .i64 2, .int .i64 (f2V (f 0) (f 1) (f 2) (f 12) (f 13) (f 14))]], #[.agg #[.int .i64 1, .int .i64 2, .int .i64 (f2V (f 6) (f 7) (f 8) (f 12) (f 13) (f 14))]]] := rfl
  rw [exs] at hY ⊢
  have k1 : ¬ cap = 1 := by omega
  have k2 : ¬ cap = 2 := by omega
  have b0 := h.bodyAt 0 (by omega) (off) (by omega)
  simp only [Nat.reduceMul, Nat.reduceAdd, Nat.mul_zero, Nat.zero_add] at b0
  have b1 := h.bodyAt 1 (by omega) (off + 6) (by omega)
  simp only [Nat.reduceMul, Nat.reduceAdd, Nat.mul_zero, Nat.zero_add] at b1
  have b2 := h.bodyAt 2 (by omega) (off + 12) (by omega)
  simp only [Nat.reduceMul, Nat.reduceAdd, Nat.mul_zero, Nat.zero_add] at b2
  have b3 := h.bodyAt 2 (by omega) (off + 6 + 6) (by omega)
  simp only [Nat.reduceMul, Nat.reduceAdd, Nat.mul_zero, Nat.zero_add] at b3
  unfold prL stB'
  by_cases hst : 3 ≤ stop
  · have q0 : (0 != stop) = true := by simp; omega
    have q1 : (1 != stop) = true := by simp; omega
    have l1 : 1 ≤ stop := by omega
    have q2 : (2 != stop) = true := by simp; omega
    have l2 : 2 ≤ stop := by omega
    repeat' (first | refine gwS ?_ | refine GWL_start ?_ | refine GWL_step ?_ | simp only [wN, wM, Nat.reduceAdd, Nat.reduceMul] | ((first | refine gwR [30] ?_ | refine gwD [30] ?_); intro Q hQ hP; simp [hC, hY, c0, k1, k2, b0, b1, b2, b3, q0, q1, l1, q2, l2, hst]; (repeat ((first | (refine heapK_mv (rig_fun b off 3 cap f h st hs) G0F (B := 200) (oneL_ok h.fx) (fun k => if k = 100 then 108 else k) (fun k hk => if_neg (by omega)) (by simp [ren, renA, renF, ren0]) (by simp) (by simp [hr]) (by simp [keys]) (by simp [keys]; rfl) ?_)); try simp [hC, hY, c0, k1, k2, b0, b1, b2, b3, q0, q1, l1, q2, l2, hst])); (first | refine hQ _ _ _ _ (by kernel_rfl) ?_ | refine hP _ _ (by kernel_rfl) fun _ => ?_); clear hQ hP Q) | refine gwB ?_ | refine gwT ?_ | refine gwK ?_ | refine gwE ?_ | refine gwG ?_ | refine gwL ?_ | simp only [blockG_exit] | (refine gwC ?_ ?_ <;> (intro hb; first | (cases hb; done) | skip)))
    refine ⟨?_, ?_, ?_, fun k hk => ?_⟩
    · simp
    · simp [Tryd.results41]
    · first | trivial | omega | (simp; done) | (simp; omega)
    · have hk := hlt k hk
      first | rfl | (simp (disch := omega) only [upd_other] <;> rfl)
  · have : stop = 0 ∨ stop = 1 ∨ stop = 2 := by omega
    rcases this with rfl | rfl | rfl
    all_goals
      repeat' (first | refine gwS ?_ | refine GWL_start ?_ | refine GWL_step ?_ | simp only [wN, wM, Nat.reduceAdd, Nat.reduceMul] | ((first | refine gwR [30] ?_ | refine gwD [30] ?_); intro Q hQ hP; simp [hC, hY, c0, k1, k2, b0, b1, b2, b3]; (repeat ((first | (refine heapK_mv (rig_fun b off 3 cap f h st hs) G0F (B := 200) (oneL_ok h.fx) (fun k => if k = 100 then 108 else k) (fun k hk => if_neg (by omega)) (by simp [ren, renA, renF, ren0]) (by simp) (by simp [hr]) (by simp [keys]) (by simp [keys]; rfl) ?_)); try simp [hC, hY, c0, k1, k2, b0, b1, b2, b3])); (first | refine hQ _ _ _ _ (by kernel_rfl) ?_ | refine hP _ _ (by kernel_rfl) fun _ => ?_); clear hQ hP Q) | refine gwB ?_ | refine gwT ?_ | refine gwK ?_ | refine gwE ?_ | refine gwG ?_ | refine gwL ?_ | simp only [blockG_exit] | (refine gwC ?_ ?_ <;> (intro hb; first | (cases hb; done) | skip)))
    all_goals
      refine ⟨?_, ?_, ?_, fun k hk => ?_⟩
      · simp
      · simp [Tryd.results41]
      · first | trivial | omega | (simp; done) | (simp; omega)
      · have hk := hlt k hk
        first | rfl | (simp (disch := omega) only [upd_other] <;> rfl)
set_option maxRecDepth 20000 in
set_option maxHeartbeats 4000000 in
theorem pairs_it4 (b : Blk) (off cap : Nat) (f : Nat → Int) (h : SB b off 4 f) (hcap : 4 ≤ cap) (st : Int) (hs : i64 st) (c0 : rightB st f 4 = true) :
    IterK Tryd.prog G0 41 #[.pointer (some ⟨100, 0, none⟩)] (hpL G0 (prL b st off 4 cap)) (keys (prL b st off 4 cap)) (prXs (prsN f 4)) := by
  have hL := prL_ok h.fx st off 4 cap
  have hlt : ∀ k, dom (hpL G0 (prL b st off 4 cap)) k → k < 200 := fun k hk => Classical.byContradiction fun h1 => hk (hL.free G0F (by omega) k (by omega))
  refine iterk_ofL (B := 200) (v := .tuple #[]) G0F Tryd.func41 rfl Tryd.call41 hL ?_ (by simp [Tryd.ntmps41]) (by omega) ?_
  · simp [idsV, idsA, idsF, ids0, prL, keys]
  intro C l stop hC hC0 hY
  have hr := fun ρ => Blk.fx_rn h.fx ρ
  have exs : prXs (prsN f 4) = [#[.agg #[.int .i64 0, .int .i64 1, .int .i64 (f2V (f 0) (f 1) (f 2) (f 6) (f 7) (f 8))]], #[.agg #[.int .i64 0, .int .i64 2, .int .i64 (f2V (f 0) (f 1) (f 2) (f 12) (f 13) (f 14))]], #[.agg #[.int .i64 0, .int .i64 3, .int .i64 (f2V (f 0) (f 1) (f 2) (f 18) (f 19) (f 20))]], #[.agg #[.int .i64 1, .int .i64 2, .int .i64 (f2V (f 6) (f 7) (f 8) (f 12) (f 13) (f 14))]], #[.agg #[.int .i64 1, .int .i64 3, .int .i64 (f2V (f 6) (f 7) (f 8) (f 18) (f 19) (f 20))]], #[.agg #[.int .i64 2, .int .i64 3, .int .i64 (f2V (f 12) (f 13) (f 14) (f 18) (f 19) (f 20))]]] := rfl
  rw [exs] at hY ⊢
  have k1 : ¬ cap = 1 := by omega
  have k2 : ¬ cap = 2 := by omega
  have k3 : ¬ cap = 3 := by omega
  have b0 := h.bodyAt 0 (by omega) (off) (by omega)
  simp only [Nat.reduceMul, Nat.reduceAdd, Nat.mul_zero, Nat.zero_add] at b0
  have b1 := h.bodyAt 1 (by omega) (off + 6) (by omega)
  simp only [Nat.reduceMul, Nat.reduceAdd, Nat.mul_zero, Nat.zero_add] at b1
  have b2 := h.bodyAt 2 (by omega) (off + 12) (by omega)
  simp only [Nat.reduceMul, Nat.reduceAdd, Nat.mul_zero, Nat.zero_add] at b2
  have b3 := h.bodyAt 3 (by omega) (off + 18) (by omega)
  simp only [Nat.reduceMul, Nat.reduceAdd, Nat.mul_zero, Nat.zero_add] at b3
  have b4 := h.bodyAt 2 (by omega) (off + 6 + 6) (by omega)
  simp only [Nat.reduceMul, Nat.reduceAdd, Nat.mul_zero, Nat.zero_add] at b4
  have b5 := h.bodyAt 3 (by omega) (off + 6 + 12) (by omega)
  simp only [Nat.reduceMul, Nat.reduceAdd, Nat.mul_zero, Nat.zero_add] at b5
  have b6 := h.bodyAt 3 (by omega) (off + 12 + 6) (by omega)
  simp only [Nat.reduceMul, Nat.reduceAdd, Nat.mul_zero, Nat.zero_add] at b6
  unfold prL stB'
  by_cases hst : 6 ≤ stop
  · have q0 : (0 != stop) = true := by simp; omega
    have q1 : (1 != stop) = true := by simp; omega
    have l1 : 1 ≤ stop := by omega
    have q2 : (2 != stop) = true := by simp; omega
    have l2 : 2 ≤ stop := by omega
    have q3 : (3 != stop) = true := by simp; omega
    have l3 : 3 ≤ stop := by omega
    have q4 : (4 != stop) = true := by simp; omega
    have l4 : 4 ≤ stop := by omega
    have q5 : (5 != stop) = true := by simp; omega
    have l5 : 5 ≤ stop := by omega
    repeat' (first | refine gwS ?_ | refine GWL_start ?_ | refine GWL_step ?_ | simp only [wN, wM, Nat.reduceAdd, Nat.reduceMul] | ((first | refine gwR [30] ?_ | refine gwD [30] ?_); intro Q hQ hP; simp [hC, hY, c0, k1, k2, k3, b0, b1, b2, b3, b4, b5, b6, q0, q1, l1, q2, l2, q3, l3, q4, l4, q5, l5, hst]; (repeat ((first | (refine heapK_mv (rig_fun b off 4 cap f h st hs) G0F (B := 200) (oneL_ok h.fx) (fun k => if k = 100 then 108 else k) (fun k hk => if_neg (by omega)) (by simp [ren, renA, renF, ren0]) (by simp) (by simp [hr]) (by simp [keys]) (by simp [keys]; rfl) ?_)); try simp [hC, hY, c0, k1, k2, k3, b0, b1, b2, b3, b4, b5, b6, q0, q1, l1, q2, l2, q3, l3, q4, l4, q5, l5, hst])); (first | refine hQ _ _ _ _ (by kernel_rfl) ?_ | refine hP _ _ (by kernel_rfl) fun _ => ?_); clear hQ hP Q) | refine gwB ?_ | refine gwT ?_ | refine gwK ?_ | refine gwE ?_ | refine gwG ?_ | refine gwL ?_ | simp only [blockG_exit] | (refine gwC ?_ ?_ <;> (intro hb; first | (cases hb; done) | skip)))
    refine ⟨?_, ?_, ?_, fun k hk => ?_⟩
    · simp
    · simp [Tryd.results41]
    · first | trivial | omega | (simp; done) | (simp; omega)
    · have hk := hlt k hk
      first | rfl | (simp (disch := omega) only [upd_other] <;> rfl)
  · have : stop = 0 ∨ stop = 1 ∨ stop = 2 ∨ stop = 3 ∨ stop = 4 ∨ stop = 5 := by omega
    rcases this with rfl | rfl | rfl | rfl | rfl | rfl
    all_goals
      repeat' (first | refine gwS ?_ | refine GWL_start ?_ | refine GWL_step ?_ | simp only [wN, wM, Nat.reduceAdd, Nat.reduceMul] | ((first | refine gwR [30] ?_ | refine gwD [30] ?_); intro Q hQ hP; simp [hC, hY, c0, k1, k2, k3, b0, b1, b2, b3, b4, b5, b6]; (repeat ((first | (refine heapK_mv (rig_fun b off 4 cap f h st hs) G0F (B := 200) (oneL_ok h.fx) (fun k => if k = 100 then 108 else k) (fun k hk => if_neg (by omega)) (by simp [ren, renA, renF, ren0]) (by simp) (by simp [hr]) (by simp [keys]) (by simp [keys]; rfl) ?_)); try simp [hC, hY, c0, k1, k2, k3, b0, b1, b2, b3, b4, b5, b6])); (first | refine hQ _ _ _ _ (by kernel_rfl) ?_ | refine hP _ _ (by kernel_rfl) fun _ => ?_); clear hQ hP Q) | refine gwB ?_ | refine gwT ?_ | refine gwK ?_ | refine gwE ?_ | refine gwG ?_ | refine gwL ?_ | simp only [blockG_exit] | (refine gwC ?_ ?_ <;> (intro hb; first | (cases hb; done) | skip)))
    all_goals
      refine ⟨?_, ?_, ?_, fun k hk => ?_⟩
      · simp
      · simp [Tryd.results41]
      · first | trivial | omega | (simp; done) | (simp; omega)
      · have hk := hlt k hk
        first | rfl | (simp (disch := omega) only [upd_other] <;> rfl)
theorem pairs_it (b : Blk) (off n cap : Nat) (f : Nat → Int) (h : SB b off n f) (hcap : n ≤ cap) (st : Int) (hs : i64 st) :
    IterK Tryd.prog G0 41 #[.pointer (some ⟨100, 0, none⟩)] (hpL G0 (prL b st off n cap)) (keys (prL b st off n cap)) (prXs (prs st f n)) := by
  unfold prs
  cases c0 : rightB st f n with
  | false =>
    rw [if_neg (by simp)]
    exact pairs_it0 b off n cap f h hcap st hs c0
  | true =>
    rw [if_pos rfl]
    rcases pr_n c0 with rfl | rfl | rfl | rfl
    · exact pairs_it1 b off cap f h hcap st hs c0
    · exact pairs_it2 b off cap f h hcap st hs c0
    · exact pairs_it3 b off cap f h hcap st hs c0
    · exact pairs_it4 b off cap f h hcap st hs c0
def pF (l : List Pr) (j : Nat) : Int := match l[j / 3]? with
  | some p => match j % 3 with
    | 0 => p.1
    | 1 => p.2.1
    | _ => p.2.2
  | none => 0
theorem pF_at {l : List Pr} {i : Nat} {p : Pr} (h : l[i]? = some p) : pF l (3 * i) = p.1 ∧ pF l (3 * i + 1) = p.2.1 ∧ pF l (3 * i + 2) = p.2.2 := by
  unfold pF
  rw [show (3 * i) / 3 = i by omega, show (3 * i + 1) / 3 = i by omega, show (3 * i + 2) / 3 = i by omega, show (3 * i) % 3 = 0 by omega, show (3 * i + 1) % 3 = 1 by omega, show (3 * i + 2) % 3 = 2 by omega, h]
  exact ⟨rfl, rfl, rfl⟩
theorem prXs_at (l : List Pr) (i : Nat) (hi : i < l.length) : (prXs l)[i]? = some #[.agg #[.int .i64 (pF l (3 * i)), .int .i64 (pF l (3 * i + 1)), .int .i64 (pF l (3 * i + 2))]] := by
  have h : l[i]? = some l[i] := by simp [hi]
  obtain ⟨e0, e1, e2⟩ := pF_at h
  rw [e0, e1, e2]
  simp [prXs, hi, prV]
theorem prs_len (st : Int) (f : Nat → Int) (n : Nat) : (prs st f n).length ≤ 6 := by
  unfold prs
  split
  · unfold prsN
    split <;> simp
  · simp
def PrR (nk n : Nat) (G : Nat → Int) (v : Value) (ns : List (Nat × Blk)) : Prop := (n = 0 ∧ v = .slice none 0 0 ∧ ns = []) ∨ ∃ (c : Nat) (g : Nat → Int), 0 < n ∧ n ≤ c ∧ (∀ j, j < 3 * n → g j = G j) ∧ v = .slice (some ⟨nk, 0, none⟩) n c ∧ ns = [(nk, ⟨fa (3 * c) .i64 g, .ty 36⟩)]
theorem prR_fit {D : Nat → Prop} {nk n B : Nat} {G : Nat → Int} (hB : B ≤ nk) (v : Value) (ns : List (Nat × Blk)) (h : PrR nk n G v ns) : idsV (extD D ns) v ∧ (∀ p ∈ ns, B ≤ p.1 ∧ p.2.ids (extD D ns)) ∧ (∀ k b c, (k, b) ∈ ns → (k, c) ∈ ns → b = c) := by
  rcases h with ⟨_, rfl, rfl⟩ | ⟨c, g, h1, h2, h3, rfl, rfl⟩
  · simp [idsV, idsA, idsF, ids0]
  · refine ⟨by simp [idsV, idsA, idsF, ids0, extD, keys], ?_, ?_⟩
    · simp only [List.mem_singleton, forall_eq]
      exact ⟨by omega, Blk.fx_ids (fa_fx _ _ _) _⟩
    · intro k b c h1 h2
      simp at h1 h2
      rw [h1.2, h2.2]
def psI (G : Nat → Int) (i : Nat) (h : Hp) : Prop := ∃ sl ns, PrR 208 i G sl ns ∧ h = hpL G0 ((200, ⟨#[sl], .ty 32⟩) :: ns)
def psTs : List (Nat × Value) := [(2, .pointer (some ⟨200, 0, none⟩)), (4, .slice none 0 0)]
set_option maxRecDepth 8000 in
theorem pseq_fun (b : Blk) (off n cap : Nat) (f : Nat → Int) (h : SB b off n f) (hcap : n ≤ cap) (st : Int) (hs : i64 st) :
    FunS Tryd.prog G0 40 #[.slice none 0 0, .func (.func 41) #[] #[.pointer (some ⟨100, 0, none⟩)]] (hpL G0 (prL b st off n cap)) (keys (prL b st off n cap)) (PrR 1000 (prs st f n).length (pF (prs st f n))) := by
  have hL := prL_ok h.fx st off n cap
  refine newS_ofL (B := 200) G0F Tryd.func40 rfl Tryd.call40 hL ?_ (prR_fit (by omega)) (by simp [Tryd.ntmps40]) (by omega) ?_
  · simp [idsV, idsA, idsF, ids0, keys, prL]
  intro C hC hC0 hY
  have hnn := h.nn
  have hln := prs_len st f n
  have hid := fun D => Blk.fx_ids h.fx D
  have hasd : ∀ C0 : Ctx, (C0.hp0 = fun k => if k ∈ keys (prL b st off n cap) then none else C.hp0 k) → C0.hp0 = hpL G0 [] := fun C0 h0 => by rw [h0, hC0]; exact hL.aside G0F
  repeat' (first | refine gwS ?_ | simp only [wN, wM, Nat.reduceAdd, Nat.reduceMul] | ((first | refine gwR [] ?_ | refine gwD [] ?_); intro Q hQ hP; simp [hC, hY]; (first | refine hQ _ _ _ _ (by kernel_rfl) ?_ | refine hP _ _ (by kernel_rfl) fun _ => ?_); clear hQ hP Q) | refine gwB ?_ | refine gwT ?_ | refine gwK ?_ | refine gwE ?_ | refine gwG ?_ | refine gwL ?_ | simp only [blockG_exit] | (refine gwC ?_ ?_ <;> (intro hb; first | (cases hb; done) | skip)))
  refine GW_rangeK (f := 41) (rs := keys (prL b st off n cap)) (xs := prXs (prs st f n)) (caps := #[.pointer (some ⟨100, 0, none⟩)]) (keys (prL b st off n cap)) hY (by simp) ?_ ?_ (by simp [Tryd.ntmps40]) (tsL psTs) (tsL psTs) (psI (pF (prs st f n))) (hpS := hpL G0 [(200, ⟨#[.slice none 0 0], .ty 32⟩)]) 300 (prs st f n).length (by rw [prXs_len]; exact Nat.le_refl _) (fun _ hk => hk) ?_ ?_ ?_ ?_ ?_ (fun _ => .inl rfl) ?_ ?_
  · rw [hC]
    exact iterk_mv (pairs_it b off n cap f h hcap st hs) G0F hL (fun k => k) (fun _ _ => rfl) (by simp [ren0]) (by simp) (fun k hk => by dsimp only; rw [upd_other _ _ (by omega)]; exact hL.low k hk) (by simp [prL, Blk.rn_id]) (by simp)
  · intro x hx
    simp [prXs] at hx
    obtain ⟨i, j, q, _, rfl⟩ := hx
    simp [prV]
  · intro k hk
    simp [prL, keys] at hk
    rcases hk with rfl | rfl <;> simp [dom, prL]
  · exact hL.clz (by simp [prL])
  · intro C0 h1 h2
    refine weakL _ 300 (h1.trans hC) G0F (m0 := []) (hasd C0 h2) (by omega) ?_ ?_ ?_
    · simp [psTs, idsV, idsA, idsF, ids0, dom]
    · simp [ids_lit, idsF, ids0]
    · simp
  · exact ⟨_, _, .inl ⟨rfl, rfl, rfl⟩, rfl⟩
  · intro k hk
    simp [prL, keys] at hk
    rcases hk with rfl | rfl <;> simp
  · intro i x hq0 hi hx hI C1 l hC1 hh1 hY1
    obtain ⟨sl, ns, hV, rfl⟩ := hI
    rw [prXs_at _ _ hi] at hx
    simp only [Option.some.injEq] at hx
    subst hx
    have hCC := hC
    have hC1' : C1.G = G0 := hC1.trans hC
    rcases hV with ⟨rfl, rfl, rfl⟩ | ⟨c, g, hi0, hic, hg, rfl, rfl⟩
    · clear hC hY
      have hC := hC1'
      have hY := hY1
      repeat' (first | refine gwS ?_ | simp only [wN, wM, Nat.reduceAdd, Nat.reduceMul] | ((first | refine gwR [] ?_ | refine gwD [] ?_); intro Q hQ hP; simp [hC, hY, roundTs, psTs]; (first | refine hQ _ _ _ _ (by kernel_rfl) ?_ | refine hP _ _ (by kernel_rfl) fun _ => ?_); clear hQ hP Q) | refine gwB ?_ | refine gwT ?_ | refine gwK ?_ | refine gwE ?_ | refine gwG ?_ | refine gwL ?_ | simp only [blockG_exit] | (refine gwC ?_ ?_ <;> (intro hb; first | (cases hb; done) | skip)))
      intro C2 hC2 hh2 hY2
      clear hC hY
      have hC : C2.G = G0 := hC2.trans hCC
      have hY := hY2
      refine GW_block ?_
      refine GW_list ?_
      simp only [Array.toList]
      refine GL_walk 3 [] rfl (by simp) (by kernel_rfl) ?_; intro q hq; simp [hC, hY]; refine hq _ _ _ _ ?_; clear hq q
      simp only [wT, List.length_cons, List.length_nil, Nat.reduceAdd]
      refine GL_push (m := 3) (i := 0) (j := 332) (by' := 24) (z := .agg #[.int .i64 0, .int .i64 0, .int .i64 0]) (T2 := .ty 36) (G := pF (prs st f n)) (ev := fun u => pF (prs st f n) (3 * 0 + u)) rfl (by simp) rfl Tryd.underlying32 (tySize_of Tryd.sizeOf36) (by kernel_rfl) (by kernel_rfl) (by omega) (by simp [Value.cells]) (by simp [Value.cells]) (by omega) (by omega) (.inl ⟨rfl, by simp⟩) (by simp) (by simp [fa_3]) (fun u hu => ?_) (by omega) ?_
      · rfl
      · rintro k' c' g' hk' hk100 hc' hg'
        obtain rfl : k' = 340 := by
          rcases hk' with hk' | ⟨c, hk'⟩
          · exact hk'
          · simp at hk'
        refine GL_walk 1 [] rfl (by simp) (by kernel_rfl) ?_; intro q hq; simp [hC, hY, putT]; refine hq _ _ _ _ ?_; clear hq q
        simp only [wT, List.length_cons, List.length_nil, Nat.reduceAdd]
        refine GL_nil ?_
        simp only [blockG_normal, thenG_normal]
        refine ⟨fun k => if k = 208 then 340 else k, _, fun C0 h1 h2 => weakRL _ _ 300 (h1.trans hCC) G0F (m0 := []) (hasd C0 h2) (by omega) ?_ ?_ ?_ ?_ ?_, ⟨_, _, .inr ⟨c', g', by omega, hc', hg', rfl, rfl⟩, rfl⟩⟩
        · simp [psTs, dom, junk, ren, renA, renF, ren0, idsV, idsA, idsF, ids0]
        · have hfi := fun D => Blk.fx_ids (fa_fx (3 * c') g' 36) D
          have hfm := fun ρ => fx_map (fa_fx (3 * c') g' 36) ρ
          simp [hfm, Blk.rn, renF, ren0, ids_lit, idsF, ids0, dom, hfi]
        · simp
        · intro k hk; simp; omega
        · simp
    · clear hC hY
      have hC := hC1'
      have hY := hY1
      have hfi := fun D => Blk.fx_ids (fa_fx (3 * c) g 36) D
      repeat' (first | refine gwS ?_ | simp only [wN, wM, Nat.reduceAdd, Nat.reduceMul] | ((first | refine gwR [] ?_ | refine gwD [] ?_); intro Q hQ hP; simp [hC, hY, roundTs, psTs]; (first | refine hQ _ _ _ _ (by kernel_rfl) ?_ | refine hP _ _ (by kernel_rfl) fun _ => ?_); clear hQ hP Q) | refine gwB ?_ | refine gwT ?_ | refine gwK ?_ | refine gwE ?_ | refine gwG ?_ | refine gwL ?_ | simp only [blockG_exit] | (refine gwC ?_ ?_ <;> (intro hb; first | (cases hb; done) | skip)))
      intro C2 hC2 hh2 hY2
      clear hC hY
      have hC : C2.G = G0 := hC2.trans hCC
      have hY := hY2
      refine GW_block ?_
      refine GW_list ?_
      simp only [Array.toList]
      refine GL_walk 3 [] rfl (by simp) (by kernel_rfl) ?_; intro q hq; simp [hC, hY]; refine hq _ _ _ _ ?_; clear hq q
      simp only [wT, List.length_cons, List.length_nil, Nat.reduceAdd]
      refine GL_push (m := 3) (i := i) (j := 332) (by' := 24) (z := .agg #[.int .i64 0, .int .i64 0, .int .i64 0]) (T2 := .ty 36) (G := pF (prs st f n)) (ev := fun u => pF (prs st f n) (3 * i + u)) rfl (by simp) rfl Tryd.underlying32 (tySize_of Tryd.sizeOf36) (by kernel_rfl) (by kernel_rfl) (by omega) (by simp [Value.cells]) (by simp [Value.cells]) (by omega) (by omega) (.inr ⟨208, c, g, by omega, by simp, by simp, hic, hg⟩) (by simp) (by simp [fa_3]) (fun u hu => ?_) (by omega) ?_
      · rfl
      · rintro k' c' g' hk' hk100 hc' hg'
        have hk' : k' = 340 ∨ k' = 208 := by
          rcases hk' with hk' | ⟨c, hk'⟩
          · exact .inl hk'
          · simp at hk'; exact .inr hk'.1.symm
        rcases hk' with rfl | rfl
        ·
          refine GL_walk 1 [] rfl (by simp) (by kernel_rfl) ?_; intro q hq; simp [hC, hY, putT]; refine hq _ _ _ _ ?_; clear hq q
          simp only [wT, List.length_cons, List.length_nil, Nat.reduceAdd]
          refine GL_nil ?_
          simp only [blockG_normal, thenG_normal]
          refine ⟨fun k => if k = 208 then 340 else k, _, fun C0 h1 h2 => weakRL _ _ 300 (h1.trans hCC) G0F (m0 := []) (hasd C0 h2) (by omega) ?_ ?_ ?_ ?_ ?_, ⟨_, _, .inr ⟨c', g', by omega, hc', hg', rfl, rfl⟩, rfl⟩⟩
          · simp [psTs, dom, junk, ren, renA, renF, ren0, idsV, idsA, idsF, ids0]
          · have hfi := fun D => Blk.fx_ids (fa_fx (3 * c') g' 36) D
            have hfm := fun ρ => fx_map (fa_fx (3 * c') g' 36) ρ
            simp [hfm, Blk.rn, renF, ren0, ids_lit, idsF, ids0, dom, hfi]
          · simp
          · intro k hk; simp; omega
          · simp
        ·
          refine GL_walk 1 [] rfl (by simp) (by kernel_rfl) ?_; intro q hq; simp [hC, hY, putT]; refine hq _ _ _ _ ?_; clear hq q
          simp only [wT, List.length_cons, List.length_nil, Nat.reduceAdd]
          refine GL_nil ?_
          simp only [blockG_normal, thenG_normal]
          refine ⟨fun k => if k = 208 then 208 else k, _, fun C0 h1 h2 => weakRL _ _ 300 (h1.trans hCC) G0F (m0 := []) (hasd C0 h2) (by omega) ?_ ?_ ?_ ?_ ?_, ⟨_, _, .inr ⟨c', g', by omega, hc', hg', rfl, rfl⟩, rfl⟩⟩
          · simp [psTs, dom, junk, ren, renA, renF, ren0, idsV, idsA, idsF, ids0]
          · have hfi := fun D => Blk.fx_ids (fa_fx (3 * c') g' 36) D
            have hfm := fun ρ => fx_map (fa_fx (3 * c') g' 36) ρ
            simp [hfm, Blk.rn, renF, ren0, ids_lit, idsF, ids0, dom, hfi]
          · simp
          · intro k hk; simp; omega
          · simp
  · left
    refine ⟨(prXs_len _).symm, ?_⟩
    rintro hq0 ⟨sl, ns, hV, rfl⟩
    refine ⟨?_, ?_⟩
    · intro k hk
      simp [prL, keys] at hk
      rcases hV with ⟨hl0, rfl, rfl⟩ | ⟨c, g, hi0, hic, hg, rfl, rfl⟩
      · rcases hk with rfl | rfl <;> simp
      · rcases hk with rfl | rfl <;> simp
    have hkeep : ∀ (h2 : Hp), (∀ k, k ∉ keys (prL b st off n cap) → k < 100 → h2 k = hpL G0 (prL b st off n cap) k) → ∀ k, dom (hpL G0 (prL b st off n cap)) k → addB (keys (prL b st off n cap)) (upd (hpL G0 (prL b st off n cap)) 200 (some ⟨#[.slice none 0 0], .ty 32⟩)) h2 k = hpL G0 (prL b st off n cap) k := fun h2 hh k hk => by
      unfold addB
      by_cases h1 : k ∈ keys (prL b st off n cap)
      · rw [if_pos h1, upd_other _ _ ?_]
        obtain ⟨pp, hpp, rfl⟩ := mem_keys.1 h1
        have := (hL.big pp hpp).2
        omega
      · rw [if_neg h1]
        refine hh k h1 (Classical.byContradiction fun h3 => h1 ?_)
        unfold dom at hk
        cases hb : hpL G0 (prL b st off n cap) k with
        | none => exact absurd hb hk
        | some b' =>
          rcases hpL_mem hb with h4 | h4
          · exact mem_keys.2 ⟨_, h4, rfl⟩
          · exact absurd (G0F k b' h4).1 h3
    rcases hV with ⟨hl0, rfl, rfl⟩ | ⟨c, g, hi0, hic, hg, rfl, rfl⟩
    · have h200 : ¬ 200 ∈ keys (prL b st off n cap) := by simp [prL, keys]
      unfold psTs
      repeat' (first | refine gwS ?_ | simp only [wN, wM, Nat.reduceAdd, Nat.reduceMul] | ((first | refine gwR [] ?_ | refine gwD [] ?_); intro Q hQ hP; simp [hC, hY, addB, h200]; (first | refine hQ _ _ _ _ (by kernel_rfl) ?_ | refine hP _ _ (by kernel_rfl) fun _ => ?_); clear hQ hP Q) | refine gwB ?_ | refine gwT ?_ | refine gwK ?_ | refine gwE ?_ | refine gwG ?_ | refine gwL ?_ | simp only [blockG_exit] | (refine gwC ?_ ?_ <;> (intro hb; first | (cases hb; done) | skip)))
      refine ⟨.inr trivial, hkeep _ (fun k h1 h2 => ?_), _, _, fun k => k, .inl ⟨hl0, rfl, rfl⟩, fun _ _ => rfl, by simp, by simp, by simp [Tryd.results40, ren, renA, renF, ren0], by simp⟩
      rw [hL.low k h2]
      simp (disch := omega) only [hpL_cons, hpL_nil, if_neg]
    · have h200 : ¬ 200 ∈ keys (prL b st off n cap) := by simp [prL, keys]
      have h208 : ¬ 208 ∈ keys (prL b st off n cap) := by simp [prL, keys]
      unfold psTs
      repeat' (first | refine gwS ?_ | simp only [wN, wM, Nat.reduceAdd, Nat.reduceMul] | ((first | refine gwR [] ?_ | refine gwD [] ?_); intro Q hQ hP; simp [hC, hY, addB, h200]; (first | refine hQ _ _ _ _ (by kernel_rfl) ?_ | refine hP _ _ (by kernel_rfl) fun _ => ?_); clear hQ hP Q) | refine gwB ?_ | refine gwT ?_ | refine gwK ?_ | refine gwE ?_ | refine gwG ?_ | refine gwL ?_ | simp only [blockG_exit] | (refine gwC ?_ ?_ <;> (intro hb; first | (cases hb; done) | skip)))
      refine ⟨.inr trivial, hkeep _ (fun k h1 h2 => ?_), _, _, fun k => if k = 1000 then 208 else k, .inr ⟨c, g, hi0, hic, hg, rfl, rfl⟩, fun k hk => if_neg (by omega), by simp, by simp, by simp [Tryd.results40, ren, renA, renF, ren0], ?_⟩
      · rw [hL.low k h2]
        simp (disch := omega) only [hpL_cons, hpL_nil, if_neg]
      · simp [addB, h208, fa_rn]
theorem prR_rr {nk nk' n : Nat} {G : Nat → Int} {ρ : Nat → Nat} (h : ρ nk = nk') : RR ρ (PrR nk n G) = PrR nk' n G := by
  funext v ns
  apply propext
  constructor
  · rintro ⟨v0, ns0, hV, rfl, rfl⟩
    rcases hV with ⟨h1, rfl, rfl⟩ | ⟨c, g, h1, h2, h3, rfl, rfl⟩
    · exact .inl ⟨h1, by simp [ren, renA, renF, ren0], by simp [rnL]⟩
    · exact .inr ⟨c, g, h1, h2, h3, by simp [ren, renA, renF, ren0, h], by simp [rnL, fa_rn, h]⟩
  · rintro (⟨h1, rfl, rfl⟩ | ⟨c, g, h1, h2, h3, rfl, rfl⟩)
    · exact ⟨_, _, .inl ⟨h1, rfl, rfl⟩, by simp [ren, renA, renF, ren0], by simp [rnL]⟩
    · exact ⟨_, _, .inr ⟨c, g, h1, h2, h3, rfl, rfl⟩, by simp [ren, renA, renF, ren0, h], by simp [rnL, fa_rn, h]⟩
theorem prR_key {nk n : Nat} {G : Nat → Int} {v : Value} {ns : List (Nat × Blk)} (h : PrR nk n G v ns) : ∀ k ∈ keys ns, k = nk := by
  rcases h with ⟨h1, rfl, rfl⟩ | ⟨c, g, h1, h2, h3, rfl, rfl⟩ <;> simp [keys]
theorem pseq_at (nk : Nat) (hnk : 200 ≤ nk) (b : Blk) (off n cap : Nat) (f : Nat → Int) (h : SB b off n f) (hcap : n ≤ cap) (st : Int) (hs : i64 st) :
    FunS Tryd.prog G0 40 #[.slice none 0 0, .func (.func 41) #[] #[.pointer (some ⟨100, 0, none⟩)]] (hpL G0 (prL b st off n cap)) (keys (prL b st off n cap)) (PrR nk (prs st f n).length (pF (prs st f n))) := by
  have hL := prL_ok h.fx st off n cap
  have hr := fun ρ => Blk.fx_rn h.fx ρ
  refine (pseq_fun b off n cap f h hcap st hs).mvL G0F hL (fun k => if k = 1000 then nk else k) (fun k hk => if_neg (by omega)) (by simp [ren, renA, renF, ren0]) (by simp [prL, keys]) (prR_rr rfl) hL.low (by simp [prL, stB'_rn, hr]) (by simp [prL, keys]) (fun v ns hV k hk => ?_) (fun v ns hV k hk l hl _ => by rw [prR_key hV k hk, prR_key hV l hl])
  rw [prR_key hV k hk]
  simp [prL, keys]
  omega
theorem pcol_fun (b : Blk) (off n cap : Nat) (f : Nat → Int) (h : SB b off n f) (hcap : n ≤ cap) (st : Int) (hs : i64 st) :
    FunS Tryd.prog G0 25 #[.func (.func 41) #[] #[.pointer (some ⟨100, 0, none⟩)]] (hpL G0 (prL b st off n cap)) (keys (prL b st off n cap)) (PrR 1000 (prs st f n).length (pF (prs st f n))) := by
  have hL := prL_ok h.fx st off n cap
  refine newS_ofL (B := 200) G0F Tryd.func25 rfl Tryd.call25 hL ?_ (prR_fit (by omega)) (by simp [Tryd.ntmps25]) (by omega) ?_
  · simp [idsV, idsA, idsF, ids0, keys, prL]
  intro C hC hC0 hY
  repeat' (first | refine gwS ?_ | simp only [wN, wM, Nat.reduceAdd, Nat.reduceMul] | ((first | refine gwR [] ?_ | refine gwD [] ?_); intro Q hQ hP; simp [hC, hY]; (first | refine hQ _ _ _ _ (by kernel_rfl) ?_ | refine hP _ _ (by kernel_rfl) fun _ => ?_); clear hQ hP Q) | refine gwB ?_ | refine gwT ?_ | refine gwK ?_ | refine gwE ?_ | refine gwG ?_ | refine gwL ?_ | simp only [blockG_exit] | (refine gwC ?_ ?_ <;> (intro hb; first | (cases hb; done) | skip)))
  refine GW_list ?_
  simp only [Array.toList]
  refine GL_walk 1 [] rfl (by simp) (by kernel_rfl) ?_; intro q hq; simp [hC, hY]; refine hq _ _ _ _ ?_; clear hq q
  simp only [wT, List.length_cons, List.length_nil, Nat.reduceAdd]
  have hS := pseq_at 216 (by omega) b off n cap f h hcap st hs
  refine GL_callL (f := .func 40) (cap := #[]) hC hS rfl (by simp) rfl rfl (by simp [okT]) (by simp [gev]) (by simp) (by simp [okX, junk]) (by simp [gev]) (by simp) (by intro k hk; rfl) ?_ ?_
  · intro v ns hV k hk
    rw [prR_key hV k hk]
    omega
  · intro v ns hV
    rcases hV with ⟨hl0, rfl, rfl⟩ | ⟨c, g, hi0, hic, hg, rfl, rfl⟩
    ·
      refine GL_walk 1 [] rfl (by simp) (by kernel_rfl) ?_; intro q hq; simp [hC, hY, putT, updL]; refine hq _ _ _ _ ?_; clear hq q
      simp only [wT, List.length_cons, List.length_nil, Nat.reduceAdd]
      refine GL_nil ?_
      repeat' (first | refine gwS ?_ | simp only [wN, wM, Nat.reduceAdd, Nat.reduceMul] | ((first | refine gwR [] ?_ | refine gwD [] ?_); intro Q hQ hP; simp [hC, hY]; (first | refine hQ _ _ _ _ (by kernel_rfl) ?_ | refine hP _ _ (by kernel_rfl) fun _ => ?_); clear hQ hP Q) | refine gwB ?_ | refine gwT ?_ | refine gwK ?_ | refine gwE ?_ | refine gwG ?_ | refine gwL ?_ | simp only [blockG_exit] | (refine gwC ?_ ?_ <;> (intro hb; first | (cases hb; done) | skip)))
      refine ⟨.inr trivial, by simp, _, _, fun k => k, .inl ⟨hl0, rfl, rfl⟩, fun _ _ => rfl, by simp, by simp, by simp [Tryd.results25, ren, renA, renF, ren0], by simp⟩
    ·
      refine GL_walk 1 [] rfl (by simp) (by kernel_rfl) ?_; intro q hq; simp [hC, hY, putT, updL]; refine hq _ _ _ _ ?_; clear hq q
      simp only [wT, List.length_cons, List.length_nil, Nat.reduceAdd]
      refine GL_nil ?_
      repeat' (first | refine gwS ?_ | simp only [wN, wM, Nat.reduceAdd, Nat.reduceMul] | ((first | refine gwR [] ?_ | refine gwD [] ?_); intro Q hQ hP; simp [hC, hY]; (first | refine hQ _ _ _ _ (by kernel_rfl) ?_ | refine hP _ _ (by kernel_rfl) fun _ => ?_); clear hQ hP Q) | refine gwB ?_ | refine gwT ?_ | refine gwK ?_ | refine gwE ?_ | refine gwG ?_ | refine gwL ?_ | simp only [blockG_exit] | (refine gwC ?_ ?_ <;> (intro hb; first | (cases hb; done) | skip)))
      refine ⟨.inr trivial, keep_of G0F (fun pp hpp => ?_) (fun k hk => by rw [upd_other _ _ (by omega)]), _, _, fun k => if k = 1000 then 216 else k, .inr ⟨c, g, hi0, hic, hg, rfl, rfl⟩, fun k hk => if_neg (by omega), by simp, by simp, by simp [Tryd.results25, ren, renA, renF, ren0], by simp [fa_rn]⟩
      have := (hL.big pp hpp).2
      rw [upd_other _ _ (by omega)]
theorem pairsR_rr {nk nk' off n cap : Nat} {st : Int} {ρ : Nat → Nat} (h100 : ρ 100 = 100) (h0 : ρ nk = nk') : RR ρ (PairsR nk st off n cap) = PairsR nk' st off n cap := by
  funext v ns
  apply propext
  constructor
  · rintro ⟨v0, ns0, ⟨rfl, rfl⟩, rfl, rfl⟩
    exact ⟨by simp [ren, renA, renF, ren0, h0], by simp [rnL, stB'_rn, h100, h0]⟩
  · rintro ⟨rfl, rfl⟩
    exact ⟨_, _, ⟨rfl, rfl⟩, by simp [ren, renA, renF, ren0, h0], by simp [rnL, stB'_rn, h100, h0]⟩
theorem pairsR_key {nk off n cap : Nat} {st : Int} {v : Value} {ns : List (Nat × Blk)} (h : PairsR nk st off n cap v ns) : ∀ k ∈ keys ns, k = nk := by
  obtain ⟨rfl, rfl⟩ := h
  simp [keys]
theorem pairs_at (nk : Nat) (hnk : 200 ≤ nk) (b : Blk) (off n cap : Nat) (hb : b.fx) (st : Int) :
    FunS Tryd.prog G0 26 #[.agg #[.int .i64 st, .slice (some ⟨100, off, none⟩) n cap]] (hpL G0 [(100, b)]) [100] (PairsR nk st off n cap) := by
  have hr := fun ρ => Blk.fx_rn hb ρ
  refine (pairs_fun b off n cap hb st).mvL G0F (oneL_ok hb) (fun k => if k = 1000 then nk else k) (fun k hk => if_neg (by omega)) (by simp [ren, renA, renF, ren0]) (by simp [keys]) (pairsR_rr rfl rfl) (oneL_ok hb).low (by simp [hr]) (by simp [keys]) (fun v ns hV k hk => ?_) (fun v ns hV k hk l hl e => by rw [pairsR_key hV k hk, pairsR_key hV l hl])
  rw [pairsR_key hV k hk]
  simp
  omega
def pnk (nk nb nv k : Nat) : Nat := if k = 100 then nk else if k = 108 then nb else if k = 1000 then nv else k
theorem pnk_low {nk nb nv : Nat} (k : Nat) (hk : k < 100) : pnk nk nb nv k = k := by
  unfold pnk
  rw [if_neg (by omega), if_neg (by omega), if_neg (by omega)]
theorem pcol_at (nk nv : Nat) (hnk : 200 ≤ nk) (hnv : nk + 1 ≤ nv) (b : Blk) (off n cap : Nat) (f : Nat → Int) (h : SB b off n f) (hcap : n ≤ cap) (st : Int) (hs : i64 st) :
    FunS Tryd.prog G0 25 #[.func (.func 41) #[] #[.pointer (some ⟨nk, 0, none⟩)]] (hpL G0 [(100, b), (nk, stB' st 100 off n cap)]) [nk, 100] (PrR nv (prs st f n).length (pF (prs st f n))) := by
  have hr := fun ρ => Blk.fx_rn h.fx ρ
  have d0 : pnk nk 100 nv 100 = nk := by simp [pnk]
  have d1 : pnk nk 100 nv 108 = 100 := by simp [pnk]
  have d5 : pnk nk 100 nv 1000 = nv := by simp [pnk]
  have n0 : ¬ nk = 100 := by omega
  refine (pcol_fun b off n cap f h hcap st hs).mvL G0F (prL_ok h.fx st off n cap) (pnk nk 100 nv) pnk_low (by simp [ren, renA, renF, ren0, d0]) (by simp [prL, keys, d0, d1]) (prR_rr d5) ?_ ?_ ?_ (fun v ns hV k hk => ?_) (fun v ns hV k hk l hl _ => by rw [prR_key hV k hk, prR_key hV l hl])
  · intro k hk
    simp (disch := omega) only [hpL_cons, hpL_nil, if_neg]
  · simp [prL, d0, d1, stB'_rn, hr, n0]
    omega
  · simp [prL, keys, d0, d1]
    omega
  · rw [prR_key hV k hk, d5]
    simp
    omega
theorem nPairs_fun (b : Blk) (off n cap : Nat) (f : Nat → Int) (h : SB b off n f) (hcap : n ≤ cap) (st : Int) (hs : i64 st) :
    FunS Tryd.prog G0 9 #[.agg #[.int .i64 st, .slice (some ⟨100, off, none⟩) n cap]] (hpL G0 [(100, b)]) (keys [(100, b)]) (PrR 1000 (prs st f n).length (pF (prs st f n))) := by
  refine newS_ofL (B := 200) G0F Tryd.func9 rfl Tryd.call9 (oneL_ok h.fx) ?_ (prR_fit (by omega)) (by simp [Tryd.ntmps9]) (by omega) ?_
  · simp [idsV, idsA, idsF, ids0, keys]
  intro C hC hC0 hY
  repeat' (first | refine gwS ?_ | simp only [wN, wM, Nat.reduceAdd, Nat.reduceMul] | ((first | refine gwR [] ?_ | refine gwD [] ?_); intro Q hQ hP; simp [hC, hY]; (first | refine hQ _ _ _ _ (by kernel_rfl) ?_ | refine hP _ _ (by kernel_rfl) fun _ => ?_); clear hQ hP Q) | refine gwB ?_ | refine gwT ?_ | refine gwK ?_ | refine gwE ?_ | refine gwG ?_ | refine gwL ?_ | simp only [blockG_exit] | (refine gwC ?_ ?_ <;> (intro hb; first | (cases hb; done) | skip)))
  refine GW_list ?_
  simp only [Array.toList]
  refine GL_walk 1 [] rfl (by simp) (by kernel_rfl) ?_; intro q hq; simp [hC, hY]; refine hq _ _ _ _ ?_; clear hq q
  simp only [wT, List.length_cons, List.length_nil, Nat.reduceAdd]
  refine GL_callL (f := .func 26) (cap := #[]) hC (pairs_at 224 (by omega) b off n cap h.fx st) rfl (by simp) rfl rfl (by simp [okT]) (by simp [gev]) (by simp) (by simp [okX, junk]) (by simp [gev]) (by simp) (by (intro k hk; first | rfl | (simp (disch := omega) only [addB, List.mem_cons, List.not_mem_nil, or_false, upd_other, hpL_cons, hpL_nil, if_neg, updL] <;> done))) (fun v ns hV k hk => by rw [pairsR_key hV k hk]; omega) ?_
  rintro v ns ⟨rfl, rfl⟩
  refine GL_callL (f := .func 25) (cap := #[]) hC (pcol_at 224 232 (by omega) (by omega) b off n cap f h hcap st hs) rfl (by simp) rfl rfl (by simp [okT]) (by simp [gev]) (by simp) (by simp [okX, putT, junk]) (by simp [gev, putT]) ?_ ?_ (fun v ns hV k hk => by rw [prR_key hV k hk]; omega) ?_
  · simp [updL]
  · intro k hk
    simp (disch := omega) only [updL, upd_other, hpL_cons, hpL_nil, if_neg]
  intro v ns hV
  rcases hV with ⟨hl, rfl, rfl⟩ | ⟨c, g, hi0, hic, hg, rfl, rfl⟩
  ·
    refine GL_walk 1 [] rfl (by simp) (by kernel_rfl) ?_; intro q hq; simp [hC, hY, putT, updL]; refine hq _ _ _ _ ?_; clear hq q
    simp only [wT, List.length_cons, List.length_nil, Nat.reduceAdd]
    refine GL_nil ?_
    repeat' (first | refine gwS ?_ | simp only [wN, wM, Nat.reduceAdd, Nat.reduceMul] | ((first | refine gwR [] ?_ | refine gwD [] ?_); intro Q hQ hP; simp [hC, hY]; (first | refine hQ _ _ _ _ (by kernel_rfl) ?_ | refine hP _ _ (by kernel_rfl) fun _ => ?_); clear hQ hP Q) | refine gwB ?_ | refine gwT ?_ | refine gwK ?_ | refine gwE ?_ | refine gwG ?_ | refine gwL ?_ | simp only [blockG_exit] | (refine gwC ?_ ?_ <;> (intro hb; first | (cases hb; done) | skip)))
    refine ⟨.inr trivial, keep_of G0F (by simp) (by (intro k hk; first | rfl | (simp (disch := omega) only [addB, List.mem_cons, List.not_mem_nil, or_false, upd_other, hpL_cons, hpL_nil, if_neg, updL] <;> done))), _, _, fun k => k, .inl ⟨hl, rfl, rfl⟩, fun _ _ => rfl, by simp, by simp, by simp [Tryd.results9, ren, renA, renF, ren0], by simp⟩
  ·
    refine GL_walk 1 [] rfl (by simp) (by kernel_rfl) ?_; intro q hq; simp [hC, hY, putT, updL]; refine hq _ _ _ _ ?_; clear hq q
    simp only [wT, List.length_cons, List.length_nil, Nat.reduceAdd]
    refine GL_nil ?_
    repeat' (first | refine gwS ?_ | simp only [wN, wM, Nat.reduceAdd, Nat.reduceMul] | ((first | refine gwR [] ?_ | refine gwD [] ?_); intro Q hQ hP; simp [hC, hY]; (first | refine hQ _ _ _ _ (by kernel_rfl) ?_ | refine hP _ _ (by kernel_rfl) fun _ => ?_); clear hQ hP Q) | refine gwB ?_ | refine gwT ?_ | refine gwK ?_ | refine gwE ?_ | refine gwG ?_ | refine gwL ?_ | simp only [blockG_exit] | (refine gwC ?_ ?_ <;> (intro hb; first | (cases hb; done) | skip)))
    refine ⟨.inr trivial, keep_of G0F (by simp) (by (intro k hk; first | rfl | (simp (disch := omega) only [addB, List.mem_cons, List.not_mem_nil, or_false, upd_other, hpL_cons, hpL_nil, if_neg, updL] <;> done))), _, _, fun k => if k = 1000 then 232 else k, .inr ⟨c, g, hi0, hic, hg, rfl, rfl⟩, fun k hk => if_neg (by omega), by simp, by simp, by simp [Tryd.results9, ren, renA, renF, ren0], by simp [fa_rn]⟩
theorem nPairs_at (nb nk : Nat) (hb1 : 100 ≤ nb) (hk1 : 100 ≤ nk) (hbk : nb ≠ nk) (b : Blk) (off n cap : Nat) (f : Nat → Int) (h : SB b off n f) (hcap : n ≤ cap) (st : Int) (hs : i64 st) :
    FunS Tryd.prog G0 9 #[.agg #[.int .i64 st, .slice (some ⟨nb, off, none⟩) n cap]] (hpL G0 [(nb, b)]) [nb] (PrR nk (prs st f n).length (pF (prs st f n))) := by
  have hr := fun ρ => Blk.fx_rn h.fx ρ
  refine (nPairs_fun b off n cap f h hcap st hs).mvL G0F (oneL_ok h.fx) (nn2 nb nk) nn2_low (by simp [ren, renA, renF, ren0, nn2_b]) (by simp [keys, nn2_b]) (prR_rr nn2_k) (at_low hb1) (by simp [nn2_b, hr, hb1]) (by simp [keys]) (fun v ns hV k hk => ?_) (fun v ns hV k hk l hl _ => by rw [prR_key hV k hk, prR_key hV l hl])
  rw [prR_key hV k hk, nn2_k]
  simp
  exact ⟨hk1, fun e => hbk e.symm⟩
def moF (f : Nat → Int) (w0 w1 w2 : Int) (j : Nat) : Int := if j % 6 < 3 then f j + vf w0 w1 w2 (j % 6) else f j
def moE (st : Int) (f : Nat → Int) (n : Nat) (w0 w1 w2 : Int) : Int := if rightB st f n = true then if rightB st (moF f w0 w1 w2) n = true then 0 else 2 else 2
def moR (st : Int) (f : Nat → Int) (n : Nat) (w0 w1 w2 : Int) : Nat → Int := if moE st f n w0 w1 w2 = 0 then moF f w0 w1 w2 else f
theorem mo_v (f : Nat → Int) (w0 w1 w2 : Int) (i u : Nat) (h1 : 3 ≤ u) (h2 : u < 6) : moF f w0 w1 w2 (6 * i + u) = f (6 * i + u) := by
  unfold moF
  rw [if_neg (by omega)]
theorem mo_x (f : Nat → Int) (w0 w1 w2 : Int) (i u : Nat) (h : u < 3) : moF f w0 w1 w2 (6 * i + u) = f (6 * i + u) + vf w0 w1 w2 u := by
  unfold moF
  rw [if_pos (by omega), show (6 * i + u) % 6 = u by omega]
def mqG (g f : Nat → Int) (w0 w1 w2 : Int) (i j : Nat) : Int := if j < 6 * i ∧ j % 6 < 3 then f j + vf w0 w1 w2 (j % 6) else g j
theorem mqG_0 (g f : Nat → Int) (w0 w1 w2 : Int) : mqG g f w0 w1 w2 0 = g := by
  funext j
  unfold mqG
  rw [if_neg (by omega)]
theorem mqG_end {g f : Nat → Int} {w0 w1 w2 : Int} {n j : Nat} (h : j < 6 * n) (hg : ∀ j, j < 6 * n → g j = f j) : mqG g f w0 w1 w2 n j = moF f w0 w1 w2 j := by
  unfold mqG moF
  by_cases c : j % 6 < 3
  · rw [if_pos ⟨h, c⟩, if_pos c]
  · rw [if_neg (by omega), if_neg c]; exact hg j h
theorem mqG_put {g f : Nat → Int} {w0 w1 w2 : Int} {i : Nat} {a b c : Int} (ha : a = f (6 * i) + w0) (hb : b = f (6 * i + 1) + w1) (hc : c = f (6 * i + 2) + w2) : put3 (mqG g f w0 w1 w2 i) (6 * i) a b c = mqG g f w0 w1 w2 (i + 1) := by
  funext j
  unfold put3
  by_cases c0 : j = 6 * i
  · rw [if_pos c0, ha]
    unfold mqG
    rw [if_pos (by omega), c0, show 6 * i % 6 = 0 by omega]
    rfl
  · rw [if_neg c0]
    by_cases c1 : j = 6 * i + 1
    · rw [if_pos c1, hb]
      unfold mqG
      rw [if_pos (by omega), c1, show (6 * i + 1) % 6 = 1 by omega]
      rfl
    · rw [if_neg c1]
      by_cases c2 : j = 6 * i + 2
      · rw [if_pos c2, hc]
        unfold mqG
        rw [if_pos (by omega), c2, show (6 * i + 2) % 6 = 2 by omega]
        rfl
      · rw [if_neg c2]
        unfold mqG
        by_cases c3 : j < 6 * i ∧ j % 6 < 3
        · rw [if_pos c3, if_pos (by omega)]
        · rw [if_neg c3, if_neg (by omega)]
theorem mput_row {M n : Nat} {g f : Nat → Int} {w0 w1 w2 : Int} (hM : 6 * n ≤ M) {i : Nat} (hi : i < n) :
    (((fa M IntKind.i64 (mqG g f w0 w1 w2 i)).setIfInBounds (i * 6) (Value.int IntKind.i64 (addI (f (6 * i)) w0))).setIfInBounds (i * 6 + 1) (Value.int IntKind.i64 (addI (f (6 * i + 1)) w1))).setIfInBounds (i * 6 + 1 + 1) (Value.int IntKind.i64 (addI (f (6 * i + 2)) w2)) = fa M IntKind.i64 (mqG g f w0 w1 w2 (i + 1)) := by
  have := splice_3 M .i64 (mqG g f w0 w1 w2 i) (6 * i) (addI (f (6 * i)) w0) (addI (f (6 * i + 1)) w1) (addI (f (6 * i + 2)) w2) (by omega)
  rw [mqG_put (a := addI (f (6 * i)) w0) (b := addI (f (6 * i + 1)) w1) (c := addI (f (6 * i + 2)) w2) rfl rfl rfl] at this
  rw [show i * 6 = 6 * i by omega]
  simpa [splice] using this
theorem nown_sb {n M : Nat} {g F : Nat → Int} (hM : 6 * n ≤ M) (hg : ∀ j, j < 6 * n → g j = F j) (hF : ∀ j, j < 6 * n → i64 (F j)) (hn : n ≤ 2932031007402) : SB ⟨fa M .i64 g, .ty 42⟩ 0 n F :=
  ⟨fun j hj => by rw [← hg j hj]; exact rdI_fa M g _ j (by omega), fa_fx _ _ _, hF, hn⟩
theorem mo_ok {st : Int} {f : Nat → Int} {n : Nat} {w0 w1 w2 : Int} (h : rightB st f n = true) (h2 : rightB st (moF f w0 w1 w2) n = true) {i : Nat} (hi : i < n) : eaE addI (f (6 * i)) (f (6 * i + 1)) (f (6 * i + 2)) w0 w1 w2 = 0 := by
  rcases eaE_or addI (f (6 * i)) (f (6 * i + 1)) (f (6 * i + 2)) w0 w1 w2 with e | e
  · exact e
  · have hx := (right_b h hi).1
    have := ok_over hx.1 hx.2.1 hx.2.2 e
    have h3 := (right_b h2 hi).1
    have e0 := mo_x f w0 w1 w2 i 0 (by omega)
    have e1 := mo_x f w0 w1 w2 i 1 (by omega)
    have e2 := mo_x f w0 w1 w2 i 2 (by omega)
    rw [Nat.add_zero] at e0
    rw [e0, e1, e2] at h3
    rw [show inV 1048576 (f (6 * i) + w0) (f (6 * i + 1) + w1) (f (6 * i + 2) + w2) = true from inV_iff.2 h3] at this
    cases this
theorem mo_i64 {f : Nat → Int} {n : Nat} {w0 w1 w2 : Int} (h : ∀ j, j < 6 * n → i64 (f j)) (he : ∀ i, i < n → eaE addI (f (6 * i)) (f (6 * i + 1)) (f (6 * i + 2)) w0 w1 w2 = 0) : ∀ j, j < 6 * n → i64 (moF f w0 w1 w2 j) := fun j hj => by
  have hd : 6 * (j / 6) + j % 6 = j := by omega
  obtain ⟨i0, i1, i2⟩ := ea_in (he (j / 6) (by omega))
  by_cases c : j % 6 < 3
  · have e := mo_x f w0 w1 w2 (j / 6) (j % 6) c
    rw [hd] at e
    rw [e]
    have : j % 6 = 0 ∨ j % 6 = 1 ∨ j % 6 = 2 := by omega
    rcases this with c | c | c
    · rw [c]
      have : f j = f (6 * (j / 6)) := by rw [show 6 * (j / 6) = j by omega]
      rw [this]
      exact i0
    · rw [c]
      have : f j = f (6 * (j / 6) + 1) := by rw [show 6 * (j / 6) + 1 = j by omega]
      rw [this]
      exact i1
    · rw [c]
      have : f j = f (6 * (j / 6) + 2) := by rw [show 6 * (j / 6) + 2 = j by omega]
      rw [this]
      exact i2
  · have e := mo_v f w0 w1 w2 (j / 6) (j % 6) (by omega) (by omega)
    rw [hd] at e
    rw [e]
    exact h j hj
def moSt (b : Blk) (st : Int) (off n cap c M : Nat) (g f : Nat → Int) (w0 w1 w2 : Int) (i : Nat) : GS :=
  ⟨tsL [(2, .pointer (some ⟨200, 0, none⟩)), (3, .pointer (some ⟨208, 0, none⟩)), (4, .pointer (some ⟨216, 0, none⟩)), (17, .slice (some ⟨100, off, none⟩) n cap), (18, .int .i64 n), (19, .int .i64 i)],
   hpL G0 [(100, b), (200, stB' st 100 off n cap), (208, ⟨#[.int .i64 w0, .int .i64 w1, .int .i64 w2], .ty 40⟩), (216, stB' st 240 0 n c), (240, ⟨fa M .i64 (mqG g f w0 w1 w2 i), .ty 42⟩)], 300, 0⟩
set_option maxRecDepth 8000 in
set_option maxHeartbeats 4000000 in
theorem moved_fun (b : Blk) (off n cap : Nat) (f : Nat → Int) (h : SB b off n f) (hcap : n ≤ cap) (st w0 w1 w2 : Int) (hs : i64 st) :
    FunS Tryd.prog G0 14 #[.agg #[.int .i64 st, .slice (some ⟨100, off, none⟩) n cap], .agg #[.int .i64 w0, .int .i64 w1, .int .i64 w2]] (hpL G0 [(100, b)]) (keys [(100, b)]) (DriftR 1000 st n (moR st f n w0 w1 w2) (moE st f n w0 w1 w2)) := by
  refine newS_ofL (B := 200) G0F Tryd.func14 rfl Tryd.call14 (oneL_ok h.fx) ?_ driftR_fit (by simp [Tryd.ntmps14]) (by omega) ?_
  · simp [idsV, idsA, idsF, ids0, keys]
  intro C hC hC0 hY
  have hr := fun ρ => Blk.fx_rn h.fx ρ
  have hid := fun D => Blk.fx_ids h.fx D
  have hnn := h.nn
  repeat' (first | refine gwS ?_ | simp only [wN, wM, Nat.reduceAdd, Nat.reduceMul] | ((first | refine gwR [] ?_ | refine gwD [] ?_); intro Q hQ hP; simp [hC, hY]; (first | refine hQ _ _ _ _ (by kernel_rfl) ?_ | refine hP _ _ (by kernel_rfl) fun _ => ?_); clear hQ hP Q) | refine gwB ?_ | refine gwT ?_ | refine gwK ?_ | refine gwE ?_ | refine gwG ?_ | refine gwL ?_ | simp only [blockG_exit] | (refine gwC ?_ ?_ <;> (intro hb; first | (cases hb; done) | skip)))
  refine GW_list ?_
  simp only [Array.toList]
  refine GL_walk 1 [] rfl (by simp) (by kernel_rfl) ?_; intro q hq; simp [hC, hY]; refine hq _ _ _ _ ?_; clear hq q
  simp only [wT, List.length_cons, List.length_nil, Nat.reduceAdd]
  refine GL_callL (f := .func 32) (cap := #[]) hC (own_at 240 (by omega) b off n cap f h hcap st) rfl (by simp) rfl rfl (by simp [okT]) (by simp [gev]) (by simp) (by simp [okX, junk]) (by simp [gev]) (by simp) (by (intro k hk; first | rfl | (simp (disch := omega) only [addB, List.mem_cons, List.not_mem_nil, or_false, upd_other, hpL_cons, hpL_nil, if_neg, updL] <;> done))) ?_ ?_
  · rintro v ns ⟨c2, M2, g2, h1, h2, h3, rfl, rfl⟩
    simp [keys]
  rintro v ns ⟨c2, M2, g2, h1, h2, h3, rfl, rfl⟩
  refine GL_walk 1 [] rfl (by simp) (by kernel_rfl) ?_; intro q hq; simp [hC, hY, putT, updL]; refine hq _ _ _ _ ?_; clear hq q
  simp only [wT, List.length_cons, List.length_nil, Nat.reduceAdd]
  refine GL_nil ?_
  cases c0 : rightB st f n with
  | false =>
    have hE : moE st f n w0 w1 w2 = 2 := by unfold moE; rw [c0]; rfl
    have hF : moR st f n w0 w1 w2 = f := by unfold moR; rw [hE, if_neg (by omega)]
    rw [hE, hF]
    repeat' (first | refine gwS ?_ | simp only [wN, wM, Nat.reduceAdd, Nat.reduceMul] | ((first | refine gwR [30] ?_ | refine gwD [30] ?_); intro Q hQ hP; simp [hC, hY, c0]; (repeat ((first | (refine heapK_mv (rig_fun b off n cap f h st hs) G0F (B := 200) (oneL_ok h.fx) (fun k => k) (fun k hk => rfl) (by simp [ren, renA, renF, ren0]) (by simp) (by simp [hr]) (by simp [keys]) (by simp [keys]; rfl) ?_)); try simp [hC, hY, c0])); (first | refine hQ _ _ _ _ (by kernel_rfl) ?_ | refine hP _ _ (by kernel_rfl) fun _ => ?_); clear hQ hP Q) | refine gwB ?_ | refine gwT ?_ | refine gwK ?_ | refine gwE ?_ | refine gwG ?_ | refine gwL ?_ | simp only [blockG_exit] | (refine gwC ?_ ?_ <;> (intro hb; first | (cases hb; done) | skip)))
    refine ⟨.inr trivial, keep_of G0F (by simp) (by (intro k hk; first | rfl | (simp (disch := omega) only [addB, List.mem_cons, List.not_mem_nil, or_false, upd_other, hpL_cons, hpL_nil, if_neg, updL] <;> done))), _, _, fun k => if k = 1000 then 240 else k, ⟨_, ⟨c2, M2, g2, h1, h2, h3, rfl, rfl⟩, rfl⟩, fun k hk => if_neg (by omega), by simp, by simp, ?_, ?_⟩
    · simp [Tryd.results14, ren, renA, renF, ren0]
    · simp [fa_rn]
  | true =>
    repeat' (first | refine gwS ?_ | simp only [wN, wM, Nat.reduceAdd, Nat.reduceMul] | ((first | refine gwR [30] ?_ | refine gwD [30] ?_); intro Q hQ hP; simp [hC, hY, c0]; (repeat ((first | (refine heapK_mv (rig_fun b off n cap f h st hs) G0F (B := 200) (oneL_ok h.fx) (fun k => k) (fun k hk => rfl) (by simp [ren, renA, renF, ren0]) (by simp) (by simp [hr]) (by simp [keys]) (by simp [keys]; rfl) ?_)); try simp [hC, hY, c0])); (first | refine hQ _ _ _ _ (by kernel_rfl) ?_ | refine hP _ _ (by kernel_rfl) fun _ => ?_); clear hQ hP Q) | refine gwB ?_ | refine gwT ?_ | refine gwK ?_ | refine gwE ?_ | refine gwG ?_ | refine gwL ?_ | simp only [blockG_exit] | (refine gwC ?_ ?_ <;> (intro hb; first | (cases hb; done) | skip)))
    obtain ⟨N, hN, hlt, hend⟩ := lead (fun i => eaE addI (f (6 * i)) (f (6 * i + 1)) (f (6 * i + 2)) w0 w1 w2 = 0) n
    refine GW_for N (moSt b st off n cap c2 M2 g2 f w0 w1 w2) ?_ ?_ ?_
    · refine weakL _ 300 hC G0F (m0 := [(100, b)]) hC0 (by omega) ?_ ?_ ?_
      · simp [idsV, idsA, idsF, ids0, dom]
      · simp [stB', ids_lit, idsF, ids0, hid, dom, mqG_0, Blk.fx_ids (fa_fx _ _ _)]
      · simp
    · intro i hi
      have hin : i < n := by omega
      have hi' : (i : Int) < n := by omega
      have hz : (0 : Int) ≤ i := by omega
      have hs : Int.bmod ((i : Int) + 1) 18446744073709551616 = ((i + 1 : Nat) : Int) := by rw [bm (by omega) (by omega)]; rfl
      have hld := h.body hin
      have he := hlt i hi
      have hM : i * 6 + 3 ≤ M2 := by omega
      unfold moSt stB'
      repeat' (first | refine gwS ?_ | simp only [wN, wM, Nat.reduceAdd, Nat.reduceMul] | ((first | refine gwR [] ?_ | refine gwD [] ?_); intro Q hQ hP; simp [hC, hY, hin, hi', hz, hs, hld, he, eaV_0, hM]; (first | refine hQ _ _ _ _ (by kernel_rfl) ?_ | refine hP _ _ (by kernel_rfl) fun _ => ?_); clear hQ hP Q) | refine gwB ?_ | refine gwT ?_ | refine gwK ?_ | refine gwE ?_ | refine gwG ?_ | refine gwL ?_ | simp only [blockG_exit] | (refine gwC ?_ ?_ <;> (intro hb; first | (cases hb; done) | skip)))
      refine weakL _ 300 hC G0F (m0 := [(100, b)]) hC0 (by omega) ?_ ?_ ?_
      · simp [idsV, idsA, idsF, ids0, dom, hs]
      · have hput := mput_row (g := g2) (f := f) (w0 := w0) (w1 := w1) (w2 := w2) h2 hin
        simp [hput, ids_lit, idsF, ids0, hid, dom, Blk.fx_ids (fa_fx _ _ _)]
      · simp
    · by_cases hNn : N = n
      · subst hNn
        have hmi := mo_i64 h.i6 hlt
        have hSo : SB ⟨fa M2 .i64 (mqG g2 f w0 w1 w2 N), .ty 42⟩ 0 N (moF f w0 w1 w2) := nown_sb h2 (fun j hj => mqG_end hj h3) hmi hnn
        unfold moSt stB'
        cases c1 : rightB st (moF f w0 w1 w2) N with
        | true =>
          have hE : moE st f N w0 w1 w2 = 0 := by unfold moE; rw [c0, c1]; rfl
          have hF : moR st f N w0 w1 w2 = moF f w0 w1 w2 := by unfold moR; rw [hE, if_pos rfl]
          rw [hE, hF]
          repeat' (first | refine gwS ?_ | simp only [wN, wM, Nat.reduceAdd, Nat.reduceMul] | ((first | refine gwR [30] ?_ | refine gwD [30] ?_); intro Q hQ hP; simp [hC, hY, c1]; (repeat ((first | (refine heapK_mv (rig_fun _ 0 N c2 _ hSo st hs) G0F (B := 200) (oneL_ok hSo.fx) (fun k => if k = 100 then 240 else k) (fun k hk => if_neg (by omega)) (by simp [ren, renA, renF, ren0]) (by simp) (by simp [fa_rn]) (by simp [keys]) (by simp [keys]; rfl) ?_)); try simp [hC, hY, c1])); (first | refine hQ _ _ _ _ (by kernel_rfl) ?_ | refine hP _ _ (by kernel_rfl) fun _ => ?_); clear hQ hP Q) | refine gwB ?_ | refine gwT ?_ | refine gwK ?_ | refine gwE ?_ | refine gwG ?_ | refine gwL ?_ | simp only [blockG_exit] | (refine gwC ?_ ?_ <;> (intro hb; first | (cases hb; done) | skip)))
          refine ⟨.inr trivial, keep_of G0F (by simp) (by (intro k hk; first | rfl | (simp (disch := omega) only [addB, List.mem_cons, List.not_mem_nil, or_false, upd_other, hpL_cons, hpL_nil, if_neg, updL] <;> done))), _, _, fun k => if k = 1000 then 240 else k, ⟨_, ⟨c2, M2, _, h1, h2, fun j hj => mqG_end hj h3, rfl, rfl⟩, rfl⟩, fun k hk => if_neg (by omega), by simp, by simp, ?_, ?_⟩
          · simp [Tryd.results14, ren, renA, renF, ren0]
          · simp [fa_rn]
        | false =>
          have hE : moE st f N w0 w1 w2 = 2 := by unfold moE; rw [c0, c1]; rfl
          have hF : moR st f N w0 w1 w2 = f := by unfold moR; rw [hE, if_neg (by omega)]
          rw [hE, hF]
          repeat' (first | refine gwS ?_ | simp only [wN, wM, Nat.reduceAdd, Nat.reduceMul] | ((first | refine gwR [30] ?_ | refine gwD [30] ?_); intro Q hQ hP; simp [hC, hY, c1]; (repeat ((first | (refine heapK_mv (rig_fun _ 0 N c2 _ hSo st hs) G0F (B := 200) (oneL_ok hSo.fx) (fun k => if k = 100 then 240 else k) (fun k hk => if_neg (by omega)) (by simp [ren, renA, renF, ren0]) (by simp) (by simp [fa_rn]) (by simp [keys]) (by simp [keys]; rfl) ?_)); try simp [hC, hY, c1])); (first | refine hQ _ _ _ _ (by kernel_rfl) ?_ | refine hP _ _ (by kernel_rfl) fun _ => ?_); clear hQ hP Q) | refine gwB ?_ | refine gwT ?_ | refine gwK ?_ | refine gwE ?_ | refine gwG ?_ | refine gwL ?_ | simp only [blockG_exit] | (refine gwC ?_ ?_ <;> (intro hb; first | (cases hb; done) | skip)))
          refine GW_list ?_
          simp only [Array.toList]
          refine GL_walk 1 [] rfl (by simp) (by kernel_rfl) ?_; intro q hq; simp [hC, hY]; refine hq _ _ _ _ ?_; clear hq q
          simp only [wT, List.length_cons, List.length_nil, Nat.reduceAdd]
          refine GL_callL (f := .func 32) (cap := #[]) hC (own_at 340 (by omega) b off N cap f h hcap st) rfl (by simp) rfl rfl (by simp [okT]) (by simp [gev]) (by simp) (by simp [okX, junk]) (by simp [gev]) (by simp) (by (intro k hk; first | rfl | (simp (disch := omega) only [addB, List.mem_cons, List.not_mem_nil, or_false, upd_other, hpL_cons, hpL_nil, if_neg, updL] <;> done))) ?_ ?_
          · rintro v ns ⟨c3, M3, g3, k1, k2, k3, rfl, rfl⟩
            simp [keys]
          rintro v ns ⟨c3, M3, g3, k1, k2, k3, rfl, rfl⟩
          refine GL_walk 2 [] rfl (by simp) (by kernel_rfl) ?_; intro q hq; simp [hC, hY, putT, updL]; refine hq _ _ _ _ ?_; clear hq q
          simp only [wT, List.length_cons, List.length_nil, Nat.reduceAdd]
          refine GL_nil ?_
          repeat' (first | refine gwS ?_ | simp only [wN, wM, Nat.reduceAdd, Nat.reduceMul] | ((first | refine gwR [] ?_ | refine gwD [] ?_); intro Q hQ hP; simp [hC, hY]; (first | refine hQ _ _ _ _ (by kernel_rfl) ?_ | refine hP _ _ (by kernel_rfl) fun _ => ?_); clear hQ hP Q) | refine gwB ?_ | refine gwT ?_ | refine gwK ?_ | refine gwE ?_ | refine gwG ?_ | refine gwL ?_ | simp only [blockG_exit] | (refine gwC ?_ ?_ <;> (intro hb; first | (cases hb; done) | skip)))
          refine ⟨.inr trivial, keep_of G0F (by simp) (by (intro k hk; first | rfl | (simp (disch := omega) only [addB, List.mem_cons, List.not_mem_nil, or_false, upd_other, hpL_cons, hpL_nil, if_neg, updL] <;> done))), _, _, fun k => if k = 1000 then 340 else k, ⟨_, ⟨c3, M3, g3, k1, k2, k3, rfl, rfl⟩, rfl⟩, fun k hk => if_neg (by omega), by simp, by simp, ?_, ?_⟩
          · simp [Tryd.results14, ren, renA, renF, ren0]
          · simp [fa_rn]
      · have hin : N < n := by omega
        have hi' : (N : Int) < n := by omega
        have hz : (0 : Int) ≤ N := by omega
        have hld := h.body hin
        have he := (eaE_or addI (f (6 * N)) (f (6 * N + 1)) (f (6 * N + 2)) w0 w1 w2).resolve_left (hend.resolve_left hNn)
        have hM : N * 6 + 3 ≤ M2 := by omega
        have hE : moE st f n w0 w1 w2 = 2 := by
          unfold moE
          rw [c0, if_pos rfl, if_neg]
          intro h5
          rw [mo_ok c0 h5 hin] at he
          cases he
        have hF : moR st f n w0 w1 w2 = f := by unfold moR; rw [hE, if_neg (by omega)]
        rw [hE, hF]
        unfold moSt stB'
        repeat' (first | refine gwS ?_ | simp only [wN, wM, Nat.reduceAdd, Nat.reduceMul] | ((first | refine gwR [] ?_ | refine gwD [] ?_); intro Q hQ hP; simp [hC, hY, hin, hi', hz, hld, he, hM]; (first | refine hQ _ _ _ _ (by kernel_rfl) ?_ | refine hP _ _ (by kernel_rfl) fun _ => ?_); clear hQ hP Q) | refine gwB ?_ | refine gwT ?_ | refine gwK ?_ | refine gwE ?_ | refine gwG ?_ | refine gwL ?_ | simp only [blockG_exit] | (refine gwC ?_ ?_ <;> (intro hb; first | (cases hb; done) | skip)))
        refine GW_list ?_
        simp only [Array.toList]
        refine GL_walk 1 [] rfl (by simp) (by kernel_rfl) ?_; intro q hq; simp [hC, hY]; refine hq _ _ _ _ ?_; clear hq q
        simp only [wT, List.length_cons, List.length_nil, Nat.reduceAdd]
        refine GL_callL (f := .func 32) (cap := #[]) hC (own_at 516 (by omega) b off n cap f h hcap st) rfl (by simp) rfl rfl (by simp [okT]) (by simp [gev]) (by simp) (by simp [okX, junk]) (by simp [gev]) (by simp) (by (intro k hk; first | rfl | (simp (disch := omega) only [addB, List.mem_cons, List.not_mem_nil, or_false, upd_other, hpL_cons, hpL_nil, if_neg, updL] <;> done))) ?_ ?_
        · rintro v ns ⟨c3, M3, g3, k1, k2, k3, rfl, rfl⟩
          simp [keys]
        rintro v ns ⟨c3, M3, g3, k1, k2, k3, rfl, rfl⟩
        refine GL_walk 2 [] rfl (by simp) (by kernel_rfl) ?_; intro q hq; simp [hC, hY, putT, updL]; refine hq _ _ _ _ ?_; clear hq q
        simp only [wT, List.length_cons, List.length_nil, Nat.reduceAdd]
        refine GL_nil ?_
        repeat' (first | refine gwS ?_ | simp only [wN, wM, Nat.reduceAdd, Nat.reduceMul] | ((first | refine gwR [] ?_ | refine gwD [] ?_); intro Q hQ hP; simp [hC, hY]; (first | refine hQ _ _ _ _ (by kernel_rfl) ?_ | refine hP _ _ (by kernel_rfl) fun _ => ?_); clear hQ hP Q) | refine gwB ?_ | refine gwT ?_ | refine gwK ?_ | refine gwE ?_ | refine gwG ?_ | refine gwL ?_ | simp only [blockG_exit] | (refine gwC ?_ ?_ <;> (intro hb; first | (cases hb; done) | skip)))
        refine ⟨.inr trivial, keep_of G0F (by simp) (by (intro k hk; first | rfl | (simp (disch := omega) only [addB, List.mem_cons, List.not_mem_nil, or_false, upd_other, hpL_cons, hpL_nil, if_neg, updL] <;> done))), _, _, fun k => if k = 1000 then 516 else k, ⟨_, ⟨c3, M3, g3, k1, k2, k3, rfl, rfl⟩, rfl⟩, fun k hk => if_neg (by omega), by simp, by simp, ?_, ?_⟩
        · simp [Tryd.results14, ren, renA, renF, ren0]
        · simp [fa_rn]
theorem succ_bm {i n : Nat} (hi : i < n) (hn : n ≤ 2932031007402) : Int.bmod ((i : Int) + 1) 18446744073709551616 = ((i + 1 : Nat) : Int) := by
  rw [bm (by omega) (by omega)]
  rfl
theorem sq_of {a0 a1 a2 b0 b1 b2 : Int} (h : inW 1048576 a0 ∧ inW 1048576 a1 ∧ inW 1048576 a2) (k : inW 1048576 b0 ∧ inW 1048576 b1 ∧ inW 1048576 b2) : f2V a0 a1 a2 b0 b1 b2 = (a0 - b0) * (a0 - b0) + (a1 - b1) * (a1 - b1) + (a2 - b2) * (a2 - b2) := by
  have e : f2E a0 a1 a2 b0 b1 b2 = 0 := by
    unfold f2E eaE subI fnI
    unfold inW at h k
    rw [if_pos (by omega)]
  unfold f2V
  rw [if_pos e]
@[simp] theorem smap : strMap Tryd.prog 99 = true := by kernel_rfl
def wiB (n lo hi : Int) : Bool := decide (lo ≤ n ∧ n ≤ hi)
theorem cwi_ret (n lo hi : Int) : Ret Tryd.prog G0 77 #[.int .i64 n, .int .i64 lo, .int .i64 hi] (.bool (wiB n lo hi)) := by
  refine ret_of G0F Tryd.func77 rfl Tryd.call77 rfl (by simp) (by simp [Tryd.ntmps77]) ?_
  intro C hC hC0 hY
  unfold wiB
  by_cases c0 : lo ≤ n
  · by_cases c1 : n ≤ hi
    · rw [decide_eq_true ⟨c0, c1⟩]
      (repeat' (first | refine gwS ?_ | simp only [wN, wM, Nat.reduceAdd, Nat.reduceMul] | ((first | refine gwR [] ?_ | refine gwD [] ?_); intro Q hQ hP; simp [hC, hY, c0, c1]; (first | refine hQ _ _ _ _ (by kernel_rfl) ?_ | refine hP _ _ (by kernel_rfl) fun _ => ?_); clear hQ hP Q) | refine gwB ?_ | refine gwT ?_ | refine gwK ?_ | refine gwE ?_ | refine gwG ?_ | refine gwL ?_ | simp only [blockG_exit] | (refine gwC ?_ ?_ <;> (intro hb; first | (cases hb; done) | skip))))
      refine ⟨.inr trivial, ?_⟩
      simp [Tryd.results77]
    · rw [decide_eq_false (by omega)]
      (repeat' (first | refine gwS ?_ | simp only [wN, wM, Nat.reduceAdd, Nat.reduceMul] | ((first | refine gwR [] ?_ | refine gwD [] ?_); intro Q hQ hP; simp [hC, hY, c0, c1]; (first | refine hQ _ _ _ _ (by kernel_rfl) ?_ | refine hP _ _ (by kernel_rfl) fun _ => ?_); clear hQ hP Q) | refine gwB ?_ | refine gwT ?_ | refine gwK ?_ | refine gwE ?_ | refine gwG ?_ | refine gwL ?_ | simp only [blockG_exit] | (refine gwC ?_ ?_ <;> (intro hb; first | (cases hb; done) | skip))))
      refine ⟨.inr trivial, ?_⟩
      simp [Tryd.results77]
  · rw [decide_eq_false (by omega)]
    (repeat' (first | refine gwS ?_ | simp only [wN, wM, Nat.reduceAdd, Nat.reduceMul] | ((first | refine gwR [] ?_ | refine gwD [] ?_); intro Q hQ hP; simp [hC, hY, c0]; (first | refine hQ _ _ _ _ (by kernel_rfl) ?_ | refine hP _ _ (by kernel_rfl) fun _ => ?_); clear hQ hP Q) | refine gwB ?_ | refine gwT ?_ | refine gwK ?_ | refine gwE ?_ | refine gwG ?_ | refine gwL ?_ | simp only [blockG_exit] | (refine gwC ?_ ?_ <;> (intro hb; first | (cases hb; done) | skip))))
    refine ⟨.inr trivial, ?_⟩
    simp [Tryd.results77]
@[simp] theorem cwi (n lo hi : Int) (K : Value → Prop) : callK Tryd.prog G0 77 #[.int .i64 n, .int .i64 lo, .int .i64 hi] K ↔ K (.bool (wiB n lo hi)) := callK_iff G0W (by kernel_rfl) (cwi_ret n lo hi)
def NumR (nk : Nat) (a m : Int) (v : Value) (ns : List (Nat × Blk)) : Prop := v = .func (.func 76) #[] #[.pointer (some ⟨nk, 0, none⟩), .pointer (some ⟨nk + 1, 0, none⟩)] ∧ ns = [(nk, jb a), (nk + 1, jb m)]
theorem num_fun (a m : Int) : FunS Tryd.prog G0 75 #[.int .i64 a, .int .i64 m] (hpL G0 []) (keys []) (NumR 1000 a m) := by
  refine newS_ofL (B := 200) G0F Tryd.func75 rfl Tryd.call75 ⟨by simp, by simp [keys], by simp⟩ ?_ ?_ (by simp [Tryd.ntmps75]) (by omega) ?_
  · simp [idsV, idsA, idsF, ids0, keys]
  · rintro v ns ⟨rfl, rfl⟩
    refine ⟨by simp [idsV, idsA, idsF, ids0, extD, keys], by simp [jb, ids_lit, idsF, ids0], ?_⟩
    intro k b c h1 h2
    simp at h1 h2
    rcases h1 with ⟨e1, rfl⟩ | ⟨e1, rfl⟩ <;> rcases h2 with ⟨e2, rfl⟩ | ⟨e2, rfl⟩ <;> first | rfl | omega
  intro C hC hC0 hY
  repeat' (first | refine gwS ?_ | simp only [wN, wM, Nat.reduceAdd, Nat.reduceMul] | ((first | refine gwR [] ?_ | refine gwD [] ?_); intro Q hQ hP; simp [hC, hY]; (first | refine hQ _ _ _ _ (by kernel_rfl) ?_ | refine hP _ _ (by kernel_rfl) fun _ => ?_); clear hQ hP Q) | refine gwB ?_ | refine gwT ?_ | refine gwK ?_ | refine gwE ?_ | refine gwG ?_ | refine gwL ?_ | simp only [blockG_exit] | (refine gwC ?_ ?_ <;> (intro hb; first | (cases hb; done) | skip)))
  refine ⟨.inr trivial, keep_of G0F (by simp) (by (intro k hk; first | rfl | (simp (disch := omega) only [addB, List.mem_cons, List.not_mem_nil, or_false, upd_other, hpL_cons, hpL_nil, if_neg, updL] <;> done))), _, _, fun k => if k = 1000 then 200 else if k = 1001 then 208 else k, ⟨rfl, rfl⟩, fun k hk => ?_, by simp, by simp, by simp [Tryd.results75, ren, renA, renF, ren0], ?_⟩
  · dsimp only
    rw [if_neg (by omega), if_neg (by omega)]
  · simp [jb_rn]
    simp [jb]
theorem numR_rr {nk nk' : Nat} {a m : Int} {ρ : Nat → Nat} (h0 : ρ nk = nk') (h1 : ρ (nk + 1) = nk' + 1) : RR ρ (NumR nk a m) = NumR nk' a m := by
  funext v ns
  apply propext
  constructor
  · rintro ⟨v0, ns0, ⟨rfl, rfl⟩, rfl, rfl⟩
    exact ⟨by simp [ren, renA, renF, ren0, h0, h1], by simp [rnL, jb_rn, h0, h1]⟩
  · rintro ⟨rfl, rfl⟩
    exact ⟨_, _, ⟨rfl, rfl⟩, by simp [ren, renA, renF, ren0, h0, h1], by simp [rnL, jb_rn, h0, h1]⟩
def up2 (nk k : Nat) : Nat := if 1000 ≤ k then (if k < 1002 then k - 1000 + nk else k) else k
theorem num_at (nk : Nat) (hnk : 200 ≤ nk) (a m : Int) : FunS Tryd.prog G0 75 #[.int .i64 a, .int .i64 m] (hpL G0 []) [] (NumR nk a m) := by
  have e2 : ∀ j, j < 2 → up2 nk (1000 + j) = nk + j := fun j hj => by unfold up2; rw [if_pos (by omega), if_pos (by omega)]; omega
  have hk2 : ∀ v ns, NumR 1000 a m v ns → ∀ k ∈ keys ns, ∃ j, j < 2 ∧ k = 1000 + j := by
    rintro v ns ⟨rfl, rfl⟩ k hk
    simp [keys] at hk
    rcases hk with rfl | rfl
    · exact ⟨0, by omega, rfl⟩
    · exact ⟨1, by omega, rfl⟩
  have h0 := (num_fun a m).rn (up2 nk) G0F nilL_ok.low (hp' := hpL G0 []) (rn_ofL nilL_ok _ (fun k hk => by unfold up2; rw [if_neg (by omega)]) nilL_ok.low (by simp) (by simp [keys])) (fun v ns hR k hk => by
    obtain ⟨j, hj, rfl⟩ := hk2 v ns hR k hk
    rw [e2 j hj]
    refine ⟨by omega, fun hd => hd ?_⟩
    simp [rst, keys]
    intro h4
    omega) (fun v ns hR k hk l hl e => by
    obtain ⟨j, hj, rfl⟩ := hk2 v ns hR k hk
    obtain ⟨i, hi, rfl⟩ := hk2 v ns hR l hl
    rw [e2 j hj, e2 i hi] at e
    omega)
  rw [numR_rr (e2 0 (by omega)) (e2 1 (by omega))] at h0
  simpa [keys, ren, renA, renF, ren0] using h0
theorem numR_key {nk : Nat} {a m : Int} {v : Value} {ns : List (Nat × Blk)} (h : NumR nk a m v ns) : ∀ k ∈ keys ns, nk ≤ k ∧ k < nk + 2 := by
  obtain ⟨rfl, rfl⟩ := h
  intro k hk
  simp [keys] at hk
  omega
theorem cn1_fun (a m : Int) : Fun Tryd.prog G0 76 #[.pointer (some ⟨100, 0, none⟩), .pointer (some ⟨108, 0, none⟩)] (hpL G0 [(100, jb a), (108, jb m)]) (keys [(100, jb a), (108, jb m)]) (.ret (.bool (wiB a 1 m)) []) := by
  refine fun_ofL (B := 200) G0F Tryd.func76 rfl Tryd.call76 ⟨by simp, by simp [keys], by simp [jb, ids_lit, idsF, ids0]⟩ ?_ (by simp) (by simp) (by simp) (by simp [Tryd.ntmps76]) (by omega) ?_
  · simp [idsV, idsA, idsF, ids0, keys]
  intro C hC hC0 hY
  repeat' (first | refine gwS ?_ | simp only [wN, wM, Nat.reduceAdd, Nat.reduceMul] | ((first | refine gwR [] ?_ | refine gwD [] ?_); intro Q hQ hP; simp [hC, hY, jb]; (first | refine hQ _ _ _ _ (by kernel_rfl) ?_ | refine hP _ _ (by kernel_rfl) fun _ => ?_); clear hQ hP Q) | refine gwB ?_ | refine gwT ?_ | refine gwK ?_ | refine gwE ?_ | refine gwG ?_ | refine gwL ?_ | simp only [blockG_exit] | (refine gwC ?_ ?_ <;> (intro hb; first | (cases hb; done) | skip)))
  refine ⟨.inr rfl, by simp [Tryd.results76], keep_of G0F (by simp [jb]) (by (intro k hk; first | rfl | (simp (disch := omega) only [addB, List.mem_cons, List.not_mem_nil, or_false, upd_other, hpL_cons, hpL_nil, if_neg, updL] <;> done)))⟩
def cfB (sl : Value) (g bx tp nr md : Int) : Blk := ⟨#[sl, .int .i64 g, .int .i64 bx, .int .i64 tp, .int .i64 nr, .int .i64 md], .ty 24⟩
def cfV (sl : Value) (g bx tp nr md : Int) : Value := .agg #[sl, .int .i64 g, .int .i64 bx, .int .i64 tp, .int .i64 nr, .int .i64 md]
theorem cm_ret (m : Int) : Ret Tryd.prog G0 80 #[.int .i64 m] (.bool !(wiB m 1 1024)) := by
  refine ret_of G0F Tryd.func80 rfl Tryd.call80 rfl (by simp) (by simp [Tryd.ntmps80]) ?_
  intro C hC hC0 hY
  repeat' (first | refine gwS ?_ | simp only [wN, wM, Nat.reduceAdd, Nat.reduceMul] | ((first | refine gwR [] ?_ | refine gwD [] ?_); intro Q hQ hP; simp [hC, hY]; (first | refine hQ _ _ _ _ (by kernel_rfl) ?_ | refine hP _ _ (by kernel_rfl) fun _ => ?_); clear hQ hP Q) | refine gwB ?_ | refine gwT ?_ | refine gwK ?_ | refine gwE ?_ | refine gwG ?_ | refine gwL ?_ | simp only [blockG_exit] | (refine gwC ?_ ?_ <;> (intro hb; first | (cases hb; done) | skip)))
  refine ⟨.inr trivial, ?_⟩
  simp [Tryd.results80]
@[simp] theorem cm1 (m : Int) (K : Value → Prop) : callK Tryd.prog G0 80 #[.int .i64 m] K ↔ K (.bool !(wiB m 1 1024)) := callK_iff G0W (by kernel_rfl) (cm_ret m)
structure MB (b : Blk) (off n : Nat) (f : Nat → Int) : Prop where
  rd : rdI b off n f
  fx : b.fx
  i6 : ∀ j, j < n → i64 (f j)
  nn : n ≤ 17592186044416
theorem MB.at {b : Blk} {off n : Nat} {f : Nat → Int} (h : MB b off n f) {i : Nat} (hi : i < n) : loadK Tryd.prog 3 b (off + i) = some (.int .i64 (f i)) := by
  have hbrd := Blk.fx_rd h.fx
  exact loadK_rd1 (P := Tryd.prog) (T := 3) (j := i) (tyAgg_of Tryd.isAgg3) h.rd hi
def cixSt (b : Blk) (off n cap : Nat) (i : Nat) : GS :=
  ⟨tsL [(0, .slice (some ⟨100, off, none⟩) n cap), (1, .func (.func 80) #[] #[]), (7, .int .i64 n), (8, .int .i64 i)], hpL G0 [(100, b)], 300, 0⟩
def allM (f : Nat → Int) (n : Nat) : Bool := (List.range n).all fun i => wiB (f i) 1 1024
theorem cix_fun (b : Blk) (off n cap : Nat) (f : Nat → Int) (h : MB b off n f) (N : Nat) (hN : N ≤ n) (hlt : ∀ i, i < N → wiB (f i) 1 1024 = true) (hend : N = n ∨ wiB (f N) 1 1024 = false) :
    Fun Tryd.prog G0 93 #[.slice (some ⟨100, off, none⟩) n cap, .func (.func 80) #[] #[]] (hpL G0 [(100, b)]) (keys [(100, b)]) (.ret (.int .i64 (if N = n then -1 else N)) []) := by
  refine fun_ofL (B := 200) G0F Tryd.func93 rfl Tryd.call93 (oneL_ok h.fx) ?_ (by simp) (by simp) (by simp) (by simp [Tryd.ntmps93]) (by omega) ?_
  · simp [idsV, idsA, idsF, ids0, keys]
  intro C hC hC0 hY
  have hnn := h.nn
  have hid := fun D => Blk.fx_ids h.fx D
  repeat' (first | refine gwS ?_ | simp only [wN, wM, Nat.reduceAdd, Nat.reduceMul] | ((first | refine gwR [] ?_ | refine gwD [] ?_); intro Q hQ hP; simp [hC, hY]; (first | refine hQ _ _ _ _ (by kernel_rfl) ?_ | refine hP _ _ (by kernel_rfl) fun _ => ?_); clear hQ hP Q) | refine gwB ?_ | refine gwT ?_ | refine gwK ?_ | refine gwE ?_ | refine gwG ?_ | refine gwL ?_ | simp only [blockG_exit] | (refine gwC ?_ ?_ <;> (intro hb; first | (cases hb; done) | skip)))
  refine GW_for N (cixSt b off n cap) ?_ ?_ ?_
  · refine weakL _ 300 hC G0F (m0 := [(100, b)]) hC0 (by omega) ?_ ?_ ?_
    · simp [idsV, idsA, idsF, ids0, dom]
    · simp [hid]
    · simp
  · intro i hi
    have hin : i < n := by omega
    have hi' : (i : Int) < n := by omega
    have hz : (0 : Int) ≤ i := by omega
    have hs : Int.bmod ((i : Int) + 1) 18446744073709551616 = ((i + 1 : Nat) : Int) := by rw [bm (by omega) (by omega)]; rfl
    have hld := h.at hin
    have hq := hlt i hi
    unfold cixSt
    repeat' (first | refine gwS ?_ | simp only [wN, wM, Nat.reduceAdd, Nat.reduceMul] | ((first | refine gwR [] ?_ | refine gwD [] ?_); intro Q hQ hP; simp [hC, hY, hi, hin, hi', hz, hs, hld, hq]; (first | refine hQ _ _ _ _ (by kernel_rfl) ?_ | refine hP _ _ (by kernel_rfl) fun _ => ?_); clear hQ hP Q) | refine gwB ?_ | refine gwT ?_ | refine gwK ?_ | refine gwE ?_ | refine gwG ?_ | refine gwL ?_ | simp only [blockG_exit] | (refine gwC ?_ ?_ <;> (intro hb; first | (cases hb; done) | skip)))
    refine weakL _ 300 hC G0F (m0 := [(100, b)]) hC0 (by omega) ?_ ?_ ?_
    · simp [idsV, idsA, idsF, ids0, dom, hs]
    · simp [hid]
    · simp
  · by_cases hNn : N = n
    · subst hNn
      simp only [if_true]
      unfold cixSt
      repeat' (first | refine gwS ?_ | simp only [wN, wM, Nat.reduceAdd, Nat.reduceMul] | ((first | refine gwR [] ?_ | refine gwD [] ?_); intro Q hQ hP; simp [hC, hY]; (first | refine hQ _ _ _ _ (by kernel_rfl) ?_ | refine hP _ _ (by kernel_rfl) fun _ => ?_); clear hQ hP Q) | refine gwB ?_ | refine gwT ?_ | refine gwK ?_ | refine gwE ?_ | refine gwG ?_ | refine gwL ?_ | simp only [blockG_exit] | (refine gwC ?_ ?_ <;> (intro hb; first | (cases hb; done) | skip)))
      refine ⟨.inr rfl, by simp [Tryd.results93], keep_of G0F (by simp) (by (intro k hk; first | rfl | (simp (disch := omega) only [addB, List.mem_cons, List.not_mem_nil, or_false, upd_other, hpL_cons, hpL_nil, if_neg, updL] <;> done)))⟩
    · have hin : N < n := by omega
      have hi' : (N : Int) < n := by omega
      have hz : (0 : Int) ≤ N := by omega
      have hld := h.at hin
      have hq := hend.resolve_left hNn
      rw [if_neg hNn]
      unfold cixSt
      repeat' (first | refine gwS ?_ | simp only [wN, wM, Nat.reduceAdd, Nat.reduceMul] | ((first | refine gwR [] ?_ | refine gwD [] ?_); intro Q hQ hP; simp [hC, hY, hin, hi', hz, hld, hq]; (first | refine hQ _ _ _ _ (by kernel_rfl) ?_ | refine hP _ _ (by kernel_rfl) fun _ => ?_); clear hQ hP Q) | refine gwB ?_ | refine gwT ?_ | refine gwK ?_ | refine gwE ?_ | refine gwG ?_ | refine gwL ?_ | simp only [blockG_exit] | (refine gwC ?_ ?_ <;> (intro hb; first | (cases hb; done) | skip)))
      refine ⟨.inr rfl, by simp [Tryd.results93], keep_of G0F (by simp) (by (intro k hk; first | rfl | (simp (disch := omega) only [addB, List.mem_cons, List.not_mem_nil, or_false, upd_other, hpL_cons, hpL_nil, if_neg, updL] <;> done)))⟩
theorem ccf_fun (b : Blk) (off n cap : Nat) (f : Nat → Int) (h : MB b off n f) :
    Fun Tryd.prog G0 79 #[.slice (some ⟨100, off, none⟩) n cap, .func (.func 80) #[] #[]] (hpL G0 [(100, b)]) (keys [(100, b)]) (.ret (.bool !(allM f n)) []) := by
  refine fun_ofL (B := 200) G0F Tryd.func79 rfl Tryd.call79 (oneL_ok h.fx) ?_ (by simp) (by simp) (by simp) (by simp [Tryd.ntmps79]) (by omega) ?_
  · simp [idsV, idsA, idsF, ids0, keys]
  intro C hC hC0 hY
  have hr := fun ρ => Blk.fx_rn h.fx ρ
  obtain ⟨N, hN, hlt, hend⟩ := leadB (fun i => wiB (f i) 1 1024) n
  by_cases hNn : N = n
  · have e : allM f n = true := by unfold allM; rw [← hNn]; simpa using hlt
    rw [e]
    repeat' (first | refine gwS ?_ | simp only [wN, wM, Nat.reduceAdd, Nat.reduceMul] | ((first | refine gwR [93] ?_ | refine gwD [93] ?_); intro Q hQ hP; simp [hC, hY, hNn]; (repeat ((first | (refine heapK_mv (cix_fun b off n cap f h N hN hlt hend) G0F (B := 200) (oneL_ok h.fx) (fun k => k) (fun k hk => rfl) (by simp [ren, renA, renF, ren0]) (by simp) (by simp [hr]) (by simp [keys]) (by simp [keys]; rfl) ?_)); try simp [hC, hY, hNn])); (first | refine hQ _ _ _ _ (by kernel_rfl) ?_ | refine hP _ _ (by kernel_rfl) fun _ => ?_); clear hQ hP Q) | refine gwB ?_ | refine gwT ?_ | refine gwK ?_ | refine gwE ?_ | refine gwG ?_ | refine gwL ?_ | simp only [blockG_exit] | (refine gwC ?_ ?_ <;> (intro hb; first | (cases hb; done) | skip)))
    refine ⟨.inr rfl, by simp [Tryd.results79], keep_of G0F (by simp) (by (intro k hk; first | rfl | (simp (disch := omega) only [addB, List.mem_cons, List.not_mem_nil, or_false, upd_other, hpL_cons, hpL_nil, if_neg, updL] <;> done)))⟩
  · have e : allM f n = false := by
      unfold allM
      rw [List.all_eq_false]
      exact ⟨N, by simp; omega, by simpa using hend.resolve_left hNn⟩
    have hz : (0 : Int) ≤ N := by omega
    rw [e]
    repeat' (first | refine gwS ?_ | simp only [wN, wM, Nat.reduceAdd, Nat.reduceMul] | ((first | refine gwR [93] ?_ | refine gwD [93] ?_); intro Q hQ hP; simp [hC, hY, hNn, hz]; (repeat ((first | (refine heapK_mv (cix_fun b off n cap f h N hN hlt hend) G0F (B := 200) (oneL_ok h.fx) (fun k => k) (fun k hk => rfl) (by simp [ren, renA, renF, ren0]) (by simp) (by simp [hr]) (by simp [keys]) (by simp [keys]; rfl) ?_)); try simp [hC, hY, hNn, hz])); (first | refine hQ _ _ _ _ (by kernel_rfl) ?_ | refine hP _ _ (by kernel_rfl) fun _ => ?_); clear hQ hP Q) | refine gwB ?_ | refine gwT ?_ | refine gwK ?_ | refine gwE ?_ | refine gwG ?_ | refine gwL ?_ | simp only [blockG_exit] | (refine gwC ?_ ?_ <;> (intro hb; first | (cases hb; done) | skip)))
    refine ⟨.inr rfl, by simp [Tryd.results79], keep_of G0F (by simp) (by (intro k hk; first | rfl | (simp (disch := omega) only [addB, List.mem_cons, List.not_mem_nil, or_false, upd_other, hpL_cons, hpL_nil, if_neg, updL] <;> done)))⟩
def cmL (b : Blk) (off n cap : Nat) (g bx tp nr md : Int) : List (Nat × Blk) := [(100, b), (108, cfB (.slice (some ⟨100, off, none⟩) n cap) g bx tp nr md)]
theorem cmL_ok {b : Blk} (hb : b.fx) (off n cap : Nat) (g bx tp nr md : Int) : LOk (cmL b off n cap g bx tp nr md) 200 := ⟨by simp [cmL], by simp [cmL, keys], by
  simp only [cmL, List.mem_cons, List.not_mem_nil, or_false, forall_eq_or_imp, forall_eq]
  exact ⟨Blk.fx_ids hb _, by simp [cfB, ids_lit, idsF, ids0, keys]⟩⟩
theorem cm2_fun (b : Blk) (off n cap : Nat) (f : Nat → Int) (h : MB b off n f) (g bx tp nr md : Int) :
    Fun Tryd.prog G0 78 #[.pointer (some ⟨108, 0, none⟩)] (hpL G0 (cmL b off n cap g bx tp nr md)) (keys (cmL b off n cap g bx tp nr md)) (.ret (.bool (allM f n)) []) := by
  refine fun_ofL (B := 200) G0F Tryd.func78 rfl Tryd.call78 (cmL_ok h.fx off n cap g bx tp nr md) ?_ (by simp) (by simp) (by simp) (by simp [Tryd.ntmps78]) (by omega) ?_
  · simp [idsV, idsA, idsF, ids0, keys, cmL]
  intro C hC hC0 hY
  have hr := fun ρ => Blk.fx_rn h.fx ρ
  unfold cmL cfB
  repeat' (first | refine gwS ?_ | simp only [wN, wM, Nat.reduceAdd, Nat.reduceMul] | ((first | refine gwR [79] ?_ | refine gwD [79] ?_); intro Q hQ hP; simp [hC, hY]; (repeat ((first | (refine heapK_mv (ccf_fun b off n cap f h) G0F (B := 200) (oneL_ok h.fx) (fun k => k) (fun k hk => rfl) (by simp [ren, renA, renF, ren0]) (by simp) (by simp [hr]) (by simp [keys]) (by simp [keys]; rfl) ?_)); try simp [hC, hY])); (first | refine hQ _ _ _ _ (by kernel_rfl) ?_ | refine hP _ _ (by kernel_rfl) fun _ => ?_); clear hQ hP Q) | refine gwB ?_ | refine gwT ?_ | refine gwK ?_ | refine gwE ?_ | refine gwG ?_ | refine gwL ?_ | simp only [blockG_exit] | (refine gwC ?_ ?_ <;> (intro hb; first | (cases hb; done) | skip)))
  refine ⟨.inr rfl, by simp [Tryd.results78], keep_of G0F (by simp) (by (intro k hk; first | rfl | (simp (disch := omega) only [addB, List.mem_cons, List.not_mem_nil, or_false, upd_other, hpL_cons, hpL_nil, if_neg, updL] <;> done)))⟩
theorem cm3_fun (b : Blk) (off n cap : Nat) (hb : b.fx) (g bx tp nr md : Int) :
    Fun Tryd.prog G0 81 #[.pointer (some ⟨108, 0, none⟩)] (hpL G0 (cmL b off n cap g bx tp nr md)) (keys (cmL b off n cap g bx tp nr md)) (.ret (.bool (wiB md 0 4)) []) := by
  refine fun_ofL (B := 200) G0F Tryd.func81 rfl Tryd.call81 (cmL_ok hb off n cap g bx tp nr md) ?_ (by simp) (by simp) (by simp) (by simp [Tryd.ntmps81]) (by omega) ?_
  · simp [idsV, idsA, idsF, ids0, keys, cmL]
  intro C hC hC0 hY
  unfold cmL cfB
  repeat' (first | refine gwS ?_ | simp only [wN, wM, Nat.reduceAdd, Nat.reduceMul] | ((first | refine gwR [] ?_ | refine gwD [] ?_); intro Q hQ hP; simp [hC, hY]; (first | refine hQ _ _ _ _ (by kernel_rfl) ?_ | refine hP _ _ (by kernel_rfl) fun _ => ?_); clear hQ hP Q) | refine gwB ?_ | refine gwT ?_ | refine gwK ?_ | refine gwE ?_ | refine gwG ?_ | refine gwL ?_ | simp only [blockG_exit] | (refine gwC ?_ ?_ <;> (intro hb; first | (cases hb; done) | skip)))
  refine ⟨.inr rfl, by simp [Tryd.results81], keep_of G0F (by simp) (by (intro k hk; first | rfl | (simp (disch := omega) only [addB, List.mem_cons, List.not_mem_nil, or_false, upd_other, hpL_cons, hpL_nil, if_neg, updL] <;> done)))⟩
end Go.Gy
