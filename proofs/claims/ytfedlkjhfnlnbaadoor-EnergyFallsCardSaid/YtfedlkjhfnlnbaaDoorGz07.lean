/-
  Lemmas of this claim, in their order (GyNA, GyEK, GyEN, GyEO, GyES, GyET, GyEA, GyEB, GyEC, GyEG, GyLI, GyEU, GyEV, GyEW, GyEX, GyH).
  Conditions: those of each theorem.
-/
import Derived.Test.YtfedlkjhfnlnbaaDoorGz06
import Derived.Stop.LaidErr
import Derived.Test.YtfedlkjhfnlnbaaDoorCards
import Derived.Test.YtfedlkjhfnlnbaaDoorTie
import Derived.WalkKit
import Derived.ProofKit
import Derived.OpenShut
import Derived.Below
import Derived.ChangeSame
import Derived.Deep.DeepHandedRow
import Derived.Lib.LaidTab
namespace Go.Gy
set_option linter.unusedSimpArgs false
set_option linter.unusedVariables false
open Go Go.RowKit Go.Proofs
theorem sub1_ret (x y : Int) : Ret Tryd.prog G0 95 #[.int .i64 x, .int .i64 y] (.int .i64 (Int.bmod (x - y) 18446744073709551616)) := by
  refine ret_of G0F Tryd.func95 rfl Tryd.call95 (by simp) (by simp) (by simp [Tryd.ntmps95]) ?_
  intro C hC hC0 hY
  repeat' (first | refine gwS ?_ | simp only [wN, wM, Nat.reduceAdd, Nat.reduceMul] | ((first | refine gwR [] ?_ | refine gwD [] ?_); intro Q hQ hP; simp [hC, hY]; (first | refine hQ _ _ _ _ (by kernel_rfl) ?_ | refine hP _ _ (by kernel_rfl) fun _ => ?_); clear hQ hP Q) | refine gwB ?_ | refine gwT ?_ | refine gwK ?_ | refine gwE ?_ | refine gwG ?_ | refine gwL ?_ | simp only [blockG_exit] | (refine gwC ?_ ?_ <;> (intro hb; first | (cases hb; done) | skip)))
  refine ⟨.inr trivial, ?_⟩
  simp [Tryd.results95]
@[simp] theorem vsub1 (x y : Int) (K : Value → Prop) : callK Tryd.prog G0 95 #[.int .i64 x, .int .i64 y] K ↔ K (.int .i64 (Int.bmod (x - y) 18446744073709551616)) := callK_iff G0W (by kernel_rfl) (sub1_ret x y)
def subI (a b : Int) : Int := a - b
theorem fn_bs {a b : Int} (h1 : fnI a) (h2 : fnI b) : Int.bmod (a - b) 18446744073709551616 = a - b := by
  obtain ⟨h1, h3⟩ := h1
  obtain ⟨h2, h4⟩ := h2
  exact bm (by omega) (by omega)
theorem sub_ret (a0 a1 a2 b0 b1 b2 : Int) : Ret Tryd.prog G0 82 #[.agg #[.int .i64 a0, .int .i64 a1, .int .i64 a2], .agg #[.int .i64 b0, .int .i64 b1, .int .i64 b2]]
    (.tuple #[.agg #[.int .i64 (eaV (eaE subI a0 a1 a2 b0 b1 b2) (subI a0 b0)), .int .i64 (eaV (eaE subI a0 a1 a2 b0 b1 b2) (subI a1 b1)), .int .i64 (eaV (eaE subI a0 a1 a2 b0 b1 b2) (subI a2 b2))], .int .i64 (eaE subI a0 a1 a2 b0 b1 b2)]) := by
  refine ret_of G0F Tryd.func82 rfl Tryd.call82 (by simp) (by simp) (by simp [Tryd.ntmps82]) ?_
  intro C hC hC0 hY
  have he := fun K => veach 95 subI (fun x y K hx hy => by rw [vsub1, fn_bs hx hy]; rfl) a0 a1 a2 b0 b1 b2 K
  repeat' (first | refine gwS ?_ | simp only [wN, wM, Nat.reduceAdd, Nat.reduceMul] | ((first | refine gwR [] ?_ | refine gwD [] ?_); intro Q hQ hP; simp [hC, hY, he]; (first | refine hQ _ _ _ _ (by kernel_rfl) ?_ | refine hP _ _ (by kernel_rfl) fun _ => ?_); clear hQ hP Q) | refine gwB ?_ | refine gwT ?_ | refine gwK ?_ | refine gwE ?_ | refine gwG ?_ | refine gwL ?_ | simp only [blockG_exit] | (refine gwC ?_ ?_ <;> (intro hb; first | (cases hb; done) | skip)))
  refine ⟨.inr trivial, ?_⟩
  simp [Tryd.results82]
@[simp] theorem vsub (a0 a1 a2 b0 b1 b2 : Int) (K : Value → Prop) : callK Tryd.prog G0 82 #[.agg #[.int .i64 a0, .int .i64 a1, .int .i64 a2], .agg #[.int .i64 b0, .int .i64 b1, .int .i64 b2]] K ↔
    K (.tuple #[.agg #[.int .i64 (eaV (eaE subI a0 a1 a2 b0 b1 b2) (subI a0 b0)), .int .i64 (eaV (eaE subI a0 a1 a2 b0 b1 b2) (subI a1 b1)), .int .i64 (eaV (eaE subI a0 a1 a2 b0 b1 b2) (subI a2 b2))], .int .i64 (eaE subI a0 a1 a2 b0 b1 b2)]) := callK_iff G0W (by kernel_rfl) (sub_ret a0 a1 a2 b0 b1 b2)
def dtE (a0 a1 a2 b0 b1 b2 : Int) : Int := if (fnI a0 ∧ fnI a1 ∧ fnI a2) ∧ fnI b0 ∧ fnI b1 ∧ fnI b2 then 0 else 20
def dtV (a0 a1 a2 b0 b1 b2 : Int) : Int := if (fnI a0 ∧ fnI a1 ∧ fnI a2) ∧ fnI b0 ∧ fnI b1 ∧ fnI b2 then a0 * b0 + a1 * b1 + a2 * b2 else 0
theorem fn_mul {a b : Int} (h1 : fnI a) (h2 : fnI b) : -288230376151711744 ≤ a * b ∧ a * b ≤ 288230376151711744 := by
  obtain ⟨h1, h3⟩ := h1
  obtain ⟨h2, h4⟩ := h2
  have h5 : (a * b).natAbs ≤ 536870912 * 536870912 := by
    rw [Int.natAbs_mul]
    exact Nat.mul_le_mul (by omega) (by omega)
  omega
def dtS (a0 a1 a2 b0 b1 b2 : Int) : Nat → Int
  | 0 => 0
  | 1 => a0 * b0
  | 2 => a0 * b0 + a1 * b1
  | _ => a0 * b0 + a1 * b1 + a2 * b2
def dtL (a0 a1 a2 b0 b1 b2 : Int) (i : Nat) : List (Nat × Blk) := [(200, ⟨#[.int .i64 a0, .int .i64 a1, .int .i64 a2], .ty 41⟩), (208, ⟨#[.int .i64 b0, .int .i64 b1, .int .i64 b2], .ty 41⟩), (216, jb (dtS a0 a1 a2 b0 b1 b2 i))]
set_option maxRecDepth 8000 in
theorem dot_ret (a0 a1 a2 b0 b1 b2 : Int) : Ret Tryd.prog G0 39 #[.agg #[.int .i64 a0, .int .i64 a1, .int .i64 a2], .agg #[.int .i64 b0, .int .i64 b1, .int .i64 b2]]
    (.tuple #[.int .i64 (dtV a0 a1 a2 b0 b1 b2), .int .i64 (dtE a0 a1 a2 b0 b1 b2)]) := by
  refine ret_of G0F Tryd.func39 rfl Tryd.call39 (by simp) (by simp) (by simp [Tryd.ntmps39]) ?_
  intro C hC hC0 hY
  obtain ⟨v, hv⟩ : ∃ v : Bool, v = true ↔ (fnI a0 ∧ fnI a1 ∧ fnI a2) ∧ fnI b0 ∧ fnI b1 ∧ fnI b2 := ⟨decide _, decide_eq_true_iff⟩
  cases v with
  | false =>
    have e : dtE a0 a1 a2 b0 b1 b2 = 20 := by unfold dtE; rw [if_neg]; intro h; exact absurd (hv.2 h) (by simp)
    have e2 : dtV a0 a1 a2 b0 b1 b2 = 0 := by unfold dtV; rw [if_neg]; intro h; exact absurd (hv.2 h) (by simp)
    rw [e, e2]
    repeat' (first | refine gwS ?_ | simp only [wN, wM, Nat.reduceAdd, Nat.reduceMul] | ((first | refine gwR [59] ?_ | refine gwD [59] ?_); intro Q hQ hP; simp [hC, hY]; (repeat ((first | (refine heapK_mv (fine2_fun a0 a1 a2 b0 b1 b2 _ hv) G0F (B := 200) ⟨by simp, by simp [keys], by simp [ids_lit, idsF, ids0]⟩ (fun k => if k = 100 then 248 else k) (fun k hk => if_neg (by omega)) (by simp [ren, renA, renF, ren0]) (by simp) (by simp [Blk.rn, renF, ren0]) (by simp [keys]) (by simp [keys]; rfl) ?_)); try simp [hC, hY])); (first | refine hQ _ _ _ _ (by kernel_rfl) ?_ | refine hP _ _ (by kernel_rfl) fun _ => ?_); clear hQ hP Q) | refine gwB ?_ | refine gwT ?_ | refine gwK ?_ | refine gwE ?_ | refine gwG ?_ | refine gwL ?_ | simp only [blockG_exit] | (refine gwC ?_ ?_ <;> (intro hb; first | (cases hb; done) | skip)))
    refine ⟨.inr trivial, ?_⟩
    simp [Tryd.results39]
  | true =>
    have e : dtE a0 a1 a2 b0 b1 b2 = 0 := by unfold dtE; rw [if_pos]; exact hv.1 rfl
    have e2 : dtV a0 a1 a2 b0 b1 b2 = a0 * b0 + a1 * b1 + a2 * b2 := by unfold dtV; rw [if_pos]; exact hv.1 rfl
    rw [e, e2]
    repeat' (first | refine gwS ?_ | simp only [wN, wM, Nat.reduceAdd, Nat.reduceMul] | ((first | refine gwR [59,60] ?_ | refine gwD [59,60] ?_); intro Q hQ hP; simp [hC, hY]; (repeat ((first | (first | (refine heapK_mv (fine2_fun a0 a1 a2 b0 b1 b2 _ hv) G0F (B := 200) ⟨by simp, by simp [keys], by simp [ids_lit, idsF, ids0]⟩ (fun k => if k = 100 then 248 else k) (fun k hk => if_neg (by omega)) (by simp [ren, renA, renF, ren0]) (by simp) (by simp [Blk.rn, renF, ren0]) (by simp [keys]) (by simp [keys]; rfl) ?_) | refine heapK_of (vparts_new 280 288 1 1 #[.int .i64 a0, .int .i64 a1, .int .i64 a2] (by simp) (by omega) (by omega) (by omega) (by omega)) (by simp) (fun k hk => hpL_low (by simp) hk) (by simp [Res.at, keys]) ?_)); try simp [hC, hY])); (first | refine hQ _ _ _ _ (by kernel_rfl) ?_ | refine hP _ _ (by kernel_rfl) fun _ => ?_); clear hQ hP Q) | refine gwB ?_ | refine gwT ?_ | refine gwK ?_ | refine gwE ?_ | refine gwG ?_ | refine gwL ?_ | simp only [blockG_exit] | (refine gwC ?_ ?_ <;> (intro hb; first | (cases hb; done) | skip)))
    obtain ⟨⟨f0, f1, f2⟩, g0, g1, g2⟩ := hv.1 rfl
    have m0 := fn_mul f0 g0
    have m1 := fn_mul f1 g1
    have m2 := fn_mul f2 g2
    have s0 : Int.bmod (a0 * b0) 18446744073709551616 = a0 * b0 := bm (by omega) (by omega)
    have s1 : Int.bmod (a1 * b1) 18446744073709551616 = a1 * b1 := bm (by omega) (by omega)
    have s2 : Int.bmod (a2 * b2) 18446744073709551616 = a2 * b2 := bm (by omega) (by omega)
    have s3 : Int.bmod (a0 * b0 + a1 * b1) 18446744073709551616 = a0 * b0 + a1 * b1 := bm (by omega) (by omega)
    have s4 : Int.bmod (a0 * b0 + a1 * b1 + a2 * b2) 18446744073709551616 = a0 * b0 + a1 * b1 + a2 * b2 := bm (by omega) (by omega)
    refine GW_rangeKL (G := G0) (f := 75) (rs := [288, 280]) (xs := xsV 3 (vf a0 a1 a2)) (caps := #[.pointer (some ⟨288, 0, none⟩)]) (m0 := []) [288, 280] G0F hC hC0 hY (by simp) ?_ (by simp [xsV]) (by simp [Tryd.ntmps39]) [(2, .pointer (some ⟨200, 0, none⟩)), (3, .pointer (some ⟨208, 0, none⟩)), (4, .pointer (some ⟨216, 0, none⟩)), (5, .int .i64 0)] [] (dtL a0 a1 a2 b0 b1 b2) 400 3 (by simp [xsV]) (by omega) (by simp) (by simp [dom]) ?_ (by simp) (by simp) (by simp [dtL, dtS, jb]) ?_ (by simp) ?_ ?_
    · refine iterk_mv (m := pvL1 a0 a1 a2) (B := 200) (vparts1_itk a0 a1 a2) G0F ⟨by simp [pvL1], by simp [pvL1, keys], by simp [pvL1, ids_lit, idsF, ids0, keys]⟩ (fun k => if k = 100 then 288 else if k = 108 then 280 else k) (fun k hk => ?_) (by simp [ren0]) (by simp [pvL1, keys]) (by (intro k hk; first | rfl | (simp (disch := omega) only [addB, List.mem_cons, List.not_mem_nil, or_false, upd_other, hpL_cons, hpL_nil, if_neg, updL] <;> done))) ?_ ?_
      · rw [if_neg (by omega), if_neg (by omega)]
      · simp [pvL1, Blk.rn, renF, ren0]
      · simp [pvL1, keys]
    · intro k hk b hb
      simp only [List.mem_cons, List.not_mem_nil, or_false] at hk
      rcases hk with rfl | rfl
      · simp at hb; subst hb; simp [ids_lit, idsF, ids0]
      · simp at hb; subst hb; simp [ids_lit, idsF, ids0]
    · intro i hi
      simp [dtL, jb, idsV, idsA, idsF, ids0, dom, ids_lit]
    · intro i x hi hx C1 l hC1 hh1 hY1
      rw [xsV_at _ _ _ (by omega)] at hx
      simp only [Option.some.injEq] at hx
      subst hx
      clear hC hY
      have hC := hC1
      have hY := hY1
      have : i = 0 ∨ i = 1 ∨ i = 2 := by omega
      rcases this with rfl | rfl | rfl
      all_goals
        simp only [vf]
        unfold dtL
      all_goals
        repeat' (first | refine gwS ?_ | simp only [wN, wM, Nat.reduceAdd, Nat.reduceMul] | ((first | refine gwR [] ?_ | refine gwD [] ?_); intro Q hQ hP; simp [hC, hY, roundTs, dtS, jb]; (first | refine hQ _ _ _ _ (by kernel_rfl) ?_ | refine hP _ _ (by kernel_rfl) fun _ => ?_); clear hQ hP Q) | refine gwB ?_ | refine gwT ?_ | refine gwK ?_ | refine gwE ?_ | refine gwG ?_ | refine gwL ?_ | simp only [blockG_exit] | (refine gwC ?_ ?_ <;> (intro hb; first | (cases hb; done) | skip)))
      all_goals
        intro C2 hC2 hh2 hY2
        clear hC hY
        have hC := hC2
        have hY := hY2
        repeat' (first | refine gwS ?_ | simp only [wN, wM, Nat.reduceAdd, Nat.reduceMul] | ((first | refine gwR [] ?_ | refine gwD [] ?_); intro Q hQ hP; simp [hC, hY, roundTs, s0, s1, s2, s3, s4, dtS, jb]; (first | refine hQ _ _ _ _ (by kernel_rfl) ?_ | refine hP _ _ (by kernel_rfl) fun _ => ?_); clear hQ hP Q) | refine gwB ?_ | refine gwT ?_ | refine gwK ?_ | refine gwE ?_ | refine gwG ?_ | refine gwL ?_ | simp only [blockG_exit] | (refine gwC ?_ ?_ <;> (intro hb; first | (cases hb; done) | skip)))
      all_goals simp [dtS, jb, s0, s1, s2, s3, s4]
    · left
      refine ⟨by simp [xsV], ?_⟩
      unfold dtL
      repeat' (first | refine gwS ?_ | simp only [wN, wM, Nat.reduceAdd, Nat.reduceMul] | ((first | refine gwR [] ?_ | refine gwD [] ?_); intro Q hQ hP; simp [hC, hY, addB, List.cons_append, List.nil_append, dtS, jb]; (first | refine hQ _ _ _ _ (by kernel_rfl) ?_ | refine hP _ _ (by kernel_rfl) fun _ => ?_); clear hQ hP Q) | refine gwB ?_ | refine gwT ?_ | refine gwK ?_ | refine gwE ?_ | refine gwG ?_ | refine gwL ?_ | simp only [blockG_exit] | (refine gwC ?_ ?_ <;> (intro hb; first | (cases hb; done) | skip)))
      refine ⟨.inr trivial, ?_⟩
      simp [Tryd.results39]
@[simp] theorem vdot (a0 a1 a2 b0 b1 b2 : Int) (K : Value → Prop) : callK Tryd.prog G0 39 #[.agg #[.int .i64 a0, .int .i64 a1, .int .i64 a2], .agg #[.int .i64 b0, .int .i64 b1, .int .i64 b2]] K ↔ K (.tuple #[.int .i64 (dtV a0 a1 a2 b0 b1 b2), .int .i64 (dtE a0 a1 a2 b0 b1 b2)]) := callK_iff G0W (by kernel_rfl) (dot_ret a0 a1 a2 b0 b1 b2)
def f2E (a0 a1 a2 b0 b1 b2 : Int) : Int := eaE subI a0 a1 a2 b0 b1 b2
def f2V (a0 a1 a2 b0 b1 b2 : Int) : Int := if f2E a0 a1 a2 b0 b1 b2 = 0 then (a0 - b0) * (a0 - b0) + (a1 - b1) * (a1 - b1) + (a2 - b2) * (a2 - b2) else 0
theorem far2_ret (a0 a1 a2 b0 b1 b2 : Int) : Ret Tryd.prog G0 71 #[.agg #[.int .i64 a0, .int .i64 a1, .int .i64 a2], .agg #[.int .i64 b0, .int .i64 b1, .int .i64 b2]]
    (.tuple #[.int .i64 (f2V a0 a1 a2 b0 b1 b2), .int .i64 (f2E a0 a1 a2 b0 b1 b2)]) := by
  refine ret_of G0F Tryd.func71 rfl Tryd.call71 (by simp) (by simp) (by simp [Tryd.ntmps71]) ?_
  intro C hC hC0 hY
  have eV0 : ∀ z, eaV 0 z = z := fun z => by simp [eaV]
  by_cases h : ((fnI a0 ∧ fnI a1 ∧ fnI a2) ∧ fnI b0 ∧ fnI b1 ∧ fnI b2) ∧ fnI (subI a0 b0) ∧ fnI (subI a1 b1) ∧ fnI (subI a2 b2)
  · have he : eaE subI a0 a1 a2 b0 b1 b2 = 0 := by unfold eaE; rw [if_pos h]
    have hd : dtE (subI a0 b0) (subI a1 b1) (subI a2 b2) (subI a0 b0) (subI a1 b1) (subI a2 b2) = 0 := by unfold dtE; rw [if_pos ⟨h.2, h.2⟩]
    have hv : dtV (subI a0 b0) (subI a1 b1) (subI a2 b2) (subI a0 b0) (subI a1 b1) (subI a2 b2) = f2V a0 a1 a2 b0 b1 b2 := by unfold dtV f2V f2E; rw [if_pos ⟨h.2, h.2⟩, he, if_pos rfl]; rfl
    have hF : f2E a0 a1 a2 b0 b1 b2 = 0 := he
    rw [hF]
    repeat' (first | refine gwS ?_ | simp only [wN, wM, Nat.reduceAdd, Nat.reduceMul] | ((first | refine gwR [] ?_ | refine gwD [] ?_); intro Q hQ hP; simp [hC, hY, he, eV0, hd, hv]; (first | refine hQ _ _ _ _ (by kernel_rfl) ?_ | refine hP _ _ (by kernel_rfl) fun _ => ?_); clear hQ hP Q) | refine gwB ?_ | refine gwT ?_ | refine gwK ?_ | refine gwE ?_ | refine gwG ?_ | refine gwL ?_ | simp only [blockG_exit] | (refine gwC ?_ ?_ <;> (intro hb; first | (cases hb; done) | skip)))
    refine ⟨.inr trivial, ?_⟩
    simp [Tryd.results71]
  · have he : eaE subI a0 a1 a2 b0 b1 b2 = 20 := by unfold eaE; rw [if_neg h]
    have hF : f2E a0 a1 a2 b0 b1 b2 = 20 := he
    have hv : f2V a0 a1 a2 b0 b1 b2 = 0 := by unfold f2V; rw [hF, if_neg (by omega)]
    rw [hF, hv]
    repeat' (first | refine gwS ?_ | simp only [wN, wM, Nat.reduceAdd, Nat.reduceMul] | ((first | refine gwR [] ?_ | refine gwD [] ?_); intro Q hQ hP; simp [hC, hY, he]; (first | refine hQ _ _ _ _ (by kernel_rfl) ?_ | refine hP _ _ (by kernel_rfl) fun _ => ?_); clear hQ hP Q) | refine gwB ?_ | refine gwT ?_ | refine gwK ?_ | refine gwE ?_ | refine gwG ?_ | refine gwL ?_ | simp only [blockG_exit] | (refine gwC ?_ ?_ <;> (intro hb; first | (cases hb; done) | skip)))
    refine ⟨.inr trivial, ?_⟩
    simp [Tryd.results71]
@[simp] theorem vfar2 (a0 a1 a2 b0 b1 b2 : Int) (K : Value → Prop) : callK Tryd.prog G0 71 #[.agg #[.int .i64 a0, .int .i64 a1, .int .i64 a2], .agg #[.int .i64 b0, .int .i64 b1, .int .i64 b2]] K ↔ K (.tuple #[.int .i64 (f2V a0 a1 a2 b0 b1 b2), .int .i64 (f2E a0 a1 a2 b0 b1 b2)]) := callK_iff G0W (by kernel_rfl) (far2_ret a0 a1 a2 b0 b1 b2)
def kinF (fm fs : Nat → Int) (i : Nat) : Int := fm i * dtV (fs (6 * i + 3)) (fs (6 * i + 4)) (fs (6 * i + 5)) (fs (6 * i + 3)) (fs (6 * i + 4)) (fs (6 * i + 5))
def kinV (fm fs : Nat → Int) (n : Nat) : Int := sumN (kinF fm fs) n * 524288
def kinE (n n2 : Nat) (okc rt : Bool) : Int := if fitB n n2 okc rt = true then 0 else 2
def kinW (n n2 : Nat) (okc rt : Bool) (fm fs : Nat → Int) : Int := if fitB n n2 okc rt = true then kinV fm fs n2 else 0
theorem cfOk_mass {n : Nat} {f : Nat → Int} {g bx tp nr md : Int} (h : cfOk n f g bx tp nr md = true) {i : Nat} (hi : i < n) : 1 ≤ f i ∧ f i ≤ 1024 := by
  unfold cfOk at h
  simp only [Bool.and_eq_true] at h
  have h2 := h.2.1
  unfold allM at h2
  rw [List.all_eq_true] at h2
  have := h2 i (by simpa using hi)
  unfold wiB at this
  simpa using this
theorem cfOk_g {n : Nat} {f : Nat → Int} {g bx tp nr md : Int} (h : cfOk n f g bx tp nr md = true) : 1 ≤ g ∧ g ≤ 1048576 := by
  unfold cfOk at h
  simp only [Bool.and_eq_true] at h
  have := h.2.2.1
  unfold wiB at this
  simpa using this
theorem fitB_iff {n n2 : Nat} {okc rt : Bool} : fitB n n2 okc rt = true ↔ n = n2 ∧ okc = true ∧ rt = true := by
  unfold fitB
  simp
theorem sq_in {a m : Int} (h : inW m a) : 0 ≤ a * a ∧ a * a ≤ m * m := by
  obtain ⟨h0, h1, h2⟩ := h
  by_cases c : 0 ≤ a
  · exact ⟨Int.mul_nonneg c c, Int.mul_le_mul h2 h2 c h0⟩
  · rw [← Int.neg_mul_neg]
    exact ⟨Int.mul_nonneg (by omega) (by omega), Int.mul_le_mul (by omega) (by omega) (by omega) h0⟩
theorem dtV_in {a b c : Int} (h0 : inW 65536 a) (h1 : inW 65536 b) (h2 : inW 65536 c) : dtV a b c a b c = a * a + b * b + c * c ∧ 0 ≤ dtV a b c a b c ∧ dtV a b c a b c ≤ 12884901888 := by
  have e : dtV a b c a b c = a * a + b * b + c * c := by
    unfold dtV
    rw [if_pos]
    unfold inW at h0 h1 h2
    unfold fnI
    omega
  have s0 := sq_in h0
  have s1 := sq_in h1
  have s2 := sq_in h2
  rw [e]
  refine ⟨rfl, by omega, by omega⟩
theorem kinF_bd {n : Nat} {fm fs : Nat → Int} {st g bx tp nr md : Int} (hc : cfOk n fm g bx tp nr md = true) (hr : rightB st fs n = true) {i : Nat} (hi : i < n) : 0 ≤ kinF fm fs i ∧ kinF fm fs i ≤ 13194139533312 := by
  have h1 := cfOk_mass hc hi
  obtain ⟨_, h2, h3, h4⟩ := right_b hr hi
  obtain ⟨_, d0, d1⟩ := dtV_in h2 h3 h4
  unfold kinF
  exact ⟨Int.mul_nonneg (by omega) d0, Int.mul_le_mul h1.2 d1 d0 (by omega)⟩
def RowW (nk i : Nat) (x : Nat → Int) (sl : Value) (ns : List (Nat × Blk)) : Prop := (i = 0 ∧ sl = .slice none 0 0 ∧ ns = []) ∨ ∃ (c : Nat) (g : Nat → Int), 0 < i ∧ i ≤ c ∧ (∀ j, j < 4 * i → g j = wF x j) ∧ sl = .slice (some ⟨nk, 0, none⟩) i c ∧ ns = [(nk, wRow c g)]
def kiOwn (ks off n cap off2 n2 cap2 : Nat) (g bx tp nr md st : Int) : List (Nat × Blk) := [(200, cfB (.slice (some ⟨100, off, none⟩) n cap) g bx tp nr md), (208, stB' st ks off2 n2 cap2), (216, wb 0)]
def kiSt (L : List (Nat × Blk)) (ks off n cap off2 n2 cap2 : Nat) (g bx tp nr md st : Int) (i : Nat) (sl : Value) (ns : List (Nat × Blk)) : GS :=
  ⟨tsL [(2, .pointer (some ⟨200, 0, none⟩)), (3, .pointer (some ⟨208, 0, none⟩)), (4, .pointer (some ⟨216, 0, none⟩)), (5, .int .i64 0), (6, sl), (19, .slice (some ⟨ks, off2, none⟩) n2 cap2), (20, .int .i64 n2), (21, .int .i64 i)],
   hpL G0 ((kiOwn ks off n cap off2 n2 cap2 g bx tp nr md st ++ ns) ++ L), 300, 0⟩
def kiI (L : List (Nat × Blk)) (ks off n cap off2 n2 cap2 : Nat) (g bx tp nr md st : Int) (x : Nat → Int) (m : Nat) (s : GS) : Prop := ∃ i sl ns, i + m = n2 ∧ RowW 224 i x sl ns ∧ s = kiSt L ks off n cap off2 n2 cap2 g bx tp nr md st i sl ns
set_option maxRecDepth 8000 in
set_option maxHeartbeats 4000000 in
theorem ekin_L (L : List (Nat × Blk)) (ks : Nat) (bm bs : Blk) (hT : LTwo G0 L ks bm bs) (off n cap off2 n2 cap2 : Nat) (fm fs : Nat → Int) (hm : MB bm off n fm) (hSb : SB bs off2 n2 fs) (hcap : n ≤ cap) (hcap2 : n2 ≤ cap2) (g bx tp nr md st : Int) (hs : i64 st) :
    Fun Tryd.prog G0 18 #[cfV (.slice (some ⟨100, off, none⟩) n cap) g bx tp nr md, .agg #[.int .i64 st, .slice (some ⟨ks, off2, none⟩) n2 cap2]] (hpL G0 L) (keys L) (.ret (.tuple #[wd (kinW n n2 (cfOk n fm g bx tp nr md) (rightB st fs n2) fm fs), .int .i64 (kinE n n2 (cfOk n fm g bx tp nr md) (rightB st fs n2))]) []) := by
  refine fun_ofL (B := 200) G0F Tryd.func18 rfl Tryd.call18 hT.ok ?_ (flatV_ids (by simp)) (by simp) (by simp) (by simp [Tryd.ntmps18]) (by omega) ?_
  · simp [idsV, idsA, idsF, ids0, hT.ia, hT.ib, cfV]
  intro C hC hC0 hY
  have hA := hT.a
  have hS := hT.s
  have hne := hT.ne
  have hLow := hT.low
  have hks := hT.k1
  have hks2 := hT.k2
  have hrm := fun ρ => Blk.fx_rn hm.fx ρ
  have hrs := fun ρ => Blk.fx_rn hSb.fx ρ
  have hfit := kFits_L L ks bm bs hT off n cap off2 n2 cap2 fm fs hm hSb g bx tp nr md st hs
  unfold kinW kinE
  cases hf : fitB n n2 (cfOk n fm g bx tp nr md) (rightB st fs n2) with
  | false =>
    rw [hf] at hfit
    unfold cfV at hfit ⊢
    repeat' (first | refine gwS ?_ | simp only [wN, wM, Nat.reduceAdd, Nat.reduceMul] | ((first | refine gwR [38] ?_ | refine gwD [38] ?_); intro Q hQ hP; simp [hC, hY, hA, hS, hne, wi_zero]; (repeat ((first | (refine heapK_L hfit hT.ok (by (intro p hp; have hpb := hT.ok.big p hp; (try dsimp only); simp (disch := omega) only [addB, upd_other, hpL_cons, hpL_nil, if_neg, updL, List.cons_append, List.nil_append]; first | exact hT.mem p hp | exact cL p hp)) ?_)); try simp [hC, hY, hA, hS, hne, wi_zero])); (first | refine hQ _ _ _ _ (by kernel_rfl) ?_ | refine hP _ _ (by kernel_rfl) fun _ => ?_); clear hQ hP Q) | refine gwB ?_ | refine gwT ?_ | refine gwK ?_ | refine gwE ?_ | refine gwG ?_ | refine gwL ?_ | simp only [blockG_exit] | (refine gwC ?_ ?_ <;> (intro hb; first | (cases hb; done) | skip)))
    refine ⟨.inr rfl, by simp [Tryd.results18, wi_zero], keep_of G0F (by (intro p hp; have hpb := hT.ok.big p hp; first | rfl | (simp (disch := omega) only [addB, upd_other, hpL_cons, hpL_nil, if_neg, updL, List.cons_append, List.nil_append] <;> done))) (by (intro k hk; first | exact hLow k hk | (simp (disch := omega) only [hLow, addB, List.mem_cons, List.not_mem_nil, or_false, upd_other, hpL_cons, hpL_nil, if_neg, updL, List.cons_append, List.nil_append] <;> done)))⟩
  | true =>
    rw [hf] at hfit
    obtain ⟨hnn, hok, hrt⟩ := fitB_iff.1 hf
    subst hnn
    have hn4 := (right_n hrt).2.1
    unfold cfV at hfit ⊢
    repeat' (first | refine gwS ?_ | simp only [wN, wM, Nat.reduceAdd, Nat.reduceMul] | ((first | refine gwR [38] ?_ | refine gwD [38] ?_); intro Q hQ hP; simp [hC, hY, hA, hS, hne, wi_zero]; (repeat ((first | (refine heapK_L hfit hT.ok (by (intro p hp; have hpb := hT.ok.big p hp; (try dsimp only); simp (disch := omega) only [addB, upd_other, hpL_cons, hpL_nil, if_neg, updL, List.cons_append, List.nil_append]; first | exact hT.mem p hp | exact cL p hp)) ?_)); try simp [hC, hY, hA, hS, hne, wi_zero])); (first | refine hQ _ _ _ _ (by kernel_rfl) ?_ | refine hP _ _ (by kernel_rfl) fun _ => ?_); clear hQ hP Q) | refine gwB ?_ | refine gwT ?_ | refine gwK ?_ | refine gwE ?_ | refine gwG ?_ | refine gwL ?_ | simp only [blockG_exit] | (refine gwC ?_ ?_ <;> (intro hb; first | (cases hb; done) | skip)))
    refine GW_loopR (kiI L ks off n cap off2 n cap2 g bx tp nr md st (kinF fm fs)) (m0 := n) (s0 := kiSt L ks off n cap off2 n cap2 g bx tp nr md st 0 (.slice none 0 0) []) ?_ ⟨0, _, _, by omega, .inl ⟨rfl, rfl, rfl⟩, rfl⟩ ?_
    · refine weakLL _ 300 hC G0F hT.ok hT.fx hC0 (by omega) ?_ ?_ (by (intro p hp; have hpb := hT.ok.big p hp; (try dsimp only); simp (disch := omega) only [addB, upd_other, hpL_cons, hpL_nil, if_neg, updL, List.cons_append, List.nil_append]; first | exact hT.mem p hp | exact cL p hp))
      · simp [kiOwn, idsV, idsA, idsF, ids0, dom, hA, hS, hne]
      · simp [kiOwn, cfB, stB', wb, ids_lit, idsF, ids0, dom, hA, hS, hne, wi_zero]
    rintro m _ ⟨i, sl, ns, him, hV, rfl⟩
    by_cases hm0 : m = 0
    · obtain rfl : i = n := by omega
      rcases hV with ⟨h0, _, _⟩ | ⟨c, gg, hi0, hic, hg, rfl, rfl⟩
      · exact absurd h0 (by omega)
      have hgi := fun D => Blk.fx_ids (wRow_fx c gg) D
      have hgr := fun ρ => Blk.fx_rn (wRow_fx c gg) ρ
      have hsum := wSum_fun c i gg (kinF fm fs) hic (by omega) hg fun j hj => by have := kinF_bd hok hrt hj; omega
      have hb := sumN_bd (f := kinF fm fs) (n := i) (lo := 0) (hi := 13194139533312) fun j hj => kinF_bd hok hrt hj
      have hb1 : sumN (kinF fm fs) i ≤ 4 * 13194139533312 := Int.le_trans hb.2 (Int.mul_le_mul_of_nonneg_right (by omega) (by omega))
      have hb0 : 0 ≤ sumN (kinF fm fs) i := by omega
      have w1 := wr_sz (wr_small hb0 (by omega))
      have w2 : sz 524288 = 524288 := by decide
      have i2 : i64 524288 := by decide
      have ek : kinV fm fs i = sumN (kinF fm fs) i * 524288 := rfl
      unfold wRow at hgi hgr hsum
      unfold kiSt kiOwn cfB stB' wb wRow
      repeat' (first | refine gwS ?_ | simp only [wN, wM, Nat.reduceAdd, Nat.reduceMul] | ((first | refine gwR [40] ?_ | refine gwD [40] ?_); intro Q hQ hP; simp [hC, hY, hA, hS, hne, w1, w2, i2, wi_zero]; (repeat ((first | (refine heapK_mv hsum G0F (B := 200) (wRow_ok c gg) (fun k => if k = 100 then 224 else k) (fun k hk => if_neg (by omega)) (by simp [ren, renA, renF, ren0]) (by simp) (by simp [hgr]) (by simp [keys]) (by simp [keys]; rfl) ?_)); try simp [hC, hY, hA, hS, hne, w1, w2, i2, wi_zero])); (first | refine hQ _ _ _ _ (by kernel_rfl) ?_ | refine hP _ _ (by kernel_rfl) fun _ => ?_); clear hQ hP Q) | refine gwB ?_ | refine gwT ?_ | refine gwK ?_ | refine gwE ?_ | refine gwG ?_ | refine gwL ?_ | simp only [blockG_exit] | (refine gwC ?_ ?_ <;> (intro hb; first | (cases hb; done) | skip)))
      refine ⟨.inr rfl, by simp [Tryd.results18, ek], keep_of G0F (by (intro p hp; have hpb := hT.ok.big p hp; first | rfl | (simp (disch := omega) only [addB, upd_other, hpL_cons, hpL_nil, if_neg, updL, List.cons_append, List.nil_append] <;> done))) (by (intro k hk; first | exact hLow k hk | (simp (disch := omega) only [hLow, addB, List.mem_cons, List.not_mem_nil, or_false, upd_other, hpL_cons, hpL_nil, if_neg, updL, List.cons_append, List.nil_append] <;> done)))⟩
    · have hin : i < n := by omega
      have hi' : (i : Int) < n := by omega
      have hz : (0 : Int) ≤ i := by omega
      have hs' : Int.bmod ((i : Int) + 1) 18446744073709551616 = ((i + 1 : Nat) : Int) := by rw [Go.Gy.bm (by omega) (by omega)]; rfl
      have hl := hSb.body hin
      have hml := hm.at hin
      have hkb := kinF_bd hok hrt hin
      have hkx : kinF fm fs i = fm i * dtV (fs (6 * i + 3)) (fs (6 * i + 4)) (fs (6 * i + 5)) (fs (6 * i + 3)) (fs (6 * i + 4)) (fs (6 * i + 5)) := rfl
      have hkb1 : Int.bmod (fm i * dtV (fs (6 * i + 3)) (fs (6 * i + 4)) (fs (6 * i + 5)) (fs (6 * i + 3)) (fs (6 * i + 4)) (fs (6 * i + 5))) 18446744073709551616 = kinF fm fs i := by rw [← hkx]; exact Go.Gy.bm (by omega) (by omega)
      have hki : i64 (kinF fm fs i) := ⟨by omega, by omega⟩
      rcases hV with ⟨rfl, rfl, rfl⟩ | ⟨c, gg, hi0, hic, hg, rfl, rfl⟩
      · simp only [Nat.mul_zero, Nat.zero_mul, Nat.add_zero, Nat.zero_add] at hl hml hkb1
        unfold kiSt kiOwn cfB stB' wb
        repeat' (first | refine gwS ?_ | simp only [wN, wM, Nat.reduceAdd, Nat.reduceMul] | ((first | refine gwR [] ?_ | refine gwD [] ?_); intro Q hQ hP; simp [hC, hY, hA, hS, hne, hin, hi', hz, hs', hl, hml, wi_zero]; (first | refine hQ _ _ _ _ (by kernel_rfl) ?_ | refine hP _ _ (by kernel_rfl) fun _ => ?_); clear hQ hP Q) | refine gwB ?_ | refine gwT ?_ | refine gwK ?_ | refine gwE ?_ | refine gwG ?_ | refine gwL ?_ | simp only [blockG_exit] | (refine gwC ?_ ?_ <;> (intro hb; first | (cases hb; done) | skip)))
        refine GW_list ?_
        simp only [Array.toList]
        refine GL_walk 10 [] rfl (by simp) (by kernel_rfl) ?_; intro q hq; simp [hC, hY, hA, hS, hne, hin, hi', hz, hs', hl, hml, hkb1, hki, wi_zero]; refine hq _ _ _ _ ?_; clear hq q
        simp only [wT, List.length_cons, List.length_nil, Nat.reduceAdd]
        refine GL_pushK .u64 (m := 4) (i := 0) (j := 508) (by' := 32) (z := .agg #[.int .u64 0, .int .u64 0, .int .u64 0, .int .u64 0]) (T2 := .ty 28) (G := wF (kinF fm fs)) (ev := fun u => wi (kinF fm fs 0) u) rfl (by simp) rfl Tryd.underlying75 (tySize_of Tryd.sizeOf28) (by kernel_rfl) (by kernel_rfl) (by omega) (by simp [Value.cells]) (by simp [Value.cells]) (by omega) (by omega) (.inl ⟨rfl, by simp⟩) (by simp) (by simp [fa_4]) (fun u hu => ?_) (by omega) ?_
        · unfold wF
          rw [show (4 * 0 + u) / 4 = 0 by omega, show (4 * 0 + u) % 4 = u by omega]
        · rintro k' c' g' hk' hk100 hc' hg'
          obtain rfl : k' = 516 := by
            rcases hk' with hk' | ⟨c, hk'⟩
            · exact hk'
            · simp at hk'
          refine GL_walk 1 [] rfl (by simp) (by kernel_rfl) ?_; intro q hq; simp [hC, hY, putT]; refine hq _ _ _ _ ?_; clear hq q
          simp only [wT, List.length_cons, List.length_nil, Nat.reduceAdd]
          refine GL_nil ?_
          repeat' (first | refine gwS ?_ | simp only [wN, wM, Nat.reduceAdd, Nat.reduceMul] | ((first | refine gwR [] ?_ | refine gwD [] ?_); intro Q hQ hP; simp [hC, hY, hs']; (first | refine hQ _ _ _ _ (by kernel_rfl) ?_ | refine hP _ _ (by kernel_rfl) fun _ => ?_); clear hQ hP Q) | refine gwB ?_ | refine gwT ?_ | refine gwK ?_ | refine gwE ?_ | refine gwG ?_ | refine gwL ?_ | simp only [blockG_exit] | (refine gwC ?_ ?_ <;> (intro hb; first | (cases hb; done) | skip)))
          refine ⟨fun k => if k = 224 then 516 else k, kiSt L ks off n cap off2 n cap2 g bx tp nr md st (0 + 1) (.slice (some ⟨224, 0, none⟩) (0 + 1) c') [(224, wRow c' g')], n - (0 + 1), ?_, ⟨0 + 1, _, _, by omega, .inr ⟨c', g', by omega, hc', hg', rfl, rfl⟩, rfl⟩, by omega⟩
          have hfi := fun D => Blk.fx_ids (wRow_fx c' g') D
          have hfm := fun ρ => fx_map (show Blk.fx ⟨fa (4 * c') .u64 g', .ty 28⟩ from wRow_fx c' g') ρ
          unfold wRow at hfi
          refine weakRLL (s := GS.mk _ _ _ 0) _ _ 300 hC G0F hT.ok hT.fx hC0 (by omega) ?_ ?_ ?_ ?_ (by (intro p hp; have hpb := hT.ok.big p hp; (try dsimp only); simp (disch := omega) only [addB, upd_other, hpL_cons, hpL_nil, if_neg, updL, List.cons_append, List.nil_append]; first | exact hT.mem p hp | exact cL p hp))
          · simp [kiOwn, wRow, dom, junk, ren, renA, renF, ren0, idsV, idsA, idsF, ids0, hs', hA, hS, hne]
          · simp [kiOwn, wRow, cfB, stB', wb, Blk.rn, renF, ren0, ids_lit, idsF, ids0, dom, hfi, hfm, hA, hS, hne, wi_zero]
          · simp [kiOwn]
          · intro k hk; simp <;> omega
      · have hgi := fun D => Blk.fx_ids (wRow_fx c gg) D
        unfold wRow at hgi
        unfold kiSt kiOwn cfB stB' wb wRow
        repeat' (first | refine gwS ?_ | simp only [wN, wM, Nat.reduceAdd, Nat.reduceMul] | ((first | refine gwR [] ?_ | refine gwD [] ?_); intro Q hQ hP; simp [hC, hY, hA, hS, hne, hin, hi', hz, hs', hl, hml, wi_zero]; (first | refine hQ _ _ _ _ (by kernel_rfl) ?_ | refine hP _ _ (by kernel_rfl) fun _ => ?_); clear hQ hP Q) | refine gwB ?_ | refine gwT ?_ | refine gwK ?_ | refine gwE ?_ | refine gwG ?_ | refine gwL ?_ | simp only [blockG_exit] | (refine gwC ?_ ?_ <;> (intro hb; first | (cases hb; done) | skip)))
        refine GW_list ?_
        simp only [Array.toList]
        refine GL_walk 10 [] rfl (by simp) (by kernel_rfl) ?_; intro q hq; simp [hC, hY, hA, hS, hne, hin, hi', hz, hs', hl, hml, hkb1, hki, wi_zero]; refine hq _ _ _ _ ?_; clear hq q
        simp only [wT, List.length_cons, List.length_nil, Nat.reduceAdd]
        refine GL_pushK .u64 (m := 4) (i := i) (j := 508) (by' := 32) (z := .agg #[.int .u64 0, .int .u64 0, .int .u64 0, .int .u64 0]) (T2 := .ty 28) (G := wF (kinF fm fs)) (ev := fun u => wi (kinF fm fs i) u) rfl (by simp) rfl Tryd.underlying75 (tySize_of Tryd.sizeOf28) (by kernel_rfl) (by kernel_rfl) (by omega) (by simp [Value.cells]) (by simp [Value.cells]) (by omega) (by omega) (.inr ⟨224, c, gg, by omega, by simp, by simp, hic, hg⟩) (by simp) (by simp [fa_4]) (fun u hu => ?_) (by omega) ?_
        · unfold wF
          rw [show (4 * i + u) / 4 = i by omega, show (4 * i + u) % 4 = u by omega]
        · rintro k' c' g' hk' hk100 hc' hg'
          have hk' : k' = 516 ∨ k' = 224 := by
            rcases hk' with hk' | ⟨c, hk'⟩
            · exact .inl hk'
            · simp at hk'; exact .inr hk'.1.symm
          rcases hk' with rfl | rfl
          ·
            refine GL_walk 1 [] rfl (by simp) (by kernel_rfl) ?_; intro q hq; simp [hC, hY, putT]; refine hq _ _ _ _ ?_; clear hq q
            simp only [wT, List.length_cons, List.length_nil, Nat.reduceAdd]
            refine GL_nil ?_
            repeat' (first | refine gwS ?_ | simp only [wN, wM, Nat.reduceAdd, Nat.reduceMul] | ((first | refine gwR [] ?_ | refine gwD [] ?_); intro Q hQ hP; simp [hC, hY, hs']; (first | refine hQ _ _ _ _ (by kernel_rfl) ?_ | refine hP _ _ (by kernel_rfl) fun _ => ?_); clear hQ hP Q) | refine gwB ?_ | refine gwT ?_ | refine gwK ?_ | refine gwE ?_ | refine gwG ?_ | refine gwL ?_ | simp only [blockG_exit] | (refine gwC ?_ ?_ <;> (intro hb; first | (cases hb; done) | skip)))
            refine ⟨fun k => if k = 224 then 516 else k, kiSt L ks off n cap off2 n cap2 g bx tp nr md st (i + 1) (.slice (some ⟨224, 0, none⟩) (i + 1) c') [(224, wRow c' g')], n - (i + 1), ?_, ⟨i + 1, _, _, by omega, .inr ⟨c', g', by omega, hc', hg', rfl, rfl⟩, rfl⟩, by omega⟩
            have hfi := fun D => Blk.fx_ids (wRow_fx c' g') D
            have hfm := fun ρ => fx_map (show Blk.fx ⟨fa (4 * c') .u64 g', .ty 28⟩ from wRow_fx c' g') ρ
            unfold wRow at hfi
            refine weakRLL (s := GS.mk _ _ _ 0) _ _ 300 hC G0F hT.ok hT.fx hC0 (by omega) ?_ ?_ ?_ ?_ (by (intro p hp; have hpb := hT.ok.big p hp; (try dsimp only); simp (disch := omega) only [addB, upd_other, hpL_cons, hpL_nil, if_neg, updL, List.cons_append, List.nil_append]; first | exact hT.mem p hp | exact cL p hp))
            · simp [kiOwn, wRow, dom, junk, ren, renA, renF, ren0, idsV, idsA, idsF, ids0, hs', hA, hS, hne]
            · simp [kiOwn, wRow, cfB, stB', wb, Blk.rn, renF, ren0, ids_lit, idsF, ids0, dom, hfi, hfm, hA, hS, hne, wi_zero]
            · simp [kiOwn]
            · intro k hk; simp <;> omega
          ·
            refine GL_walk 1 [] rfl (by simp) (by kernel_rfl) ?_; intro q hq; simp [hC, hY, putT]; refine hq _ _ _ _ ?_; clear hq q
            simp only [wT, List.length_cons, List.length_nil, Nat.reduceAdd]
            refine GL_nil ?_
            repeat' (first | refine gwS ?_ | simp only [wN, wM, Nat.reduceAdd, Nat.reduceMul] | ((first | refine gwR [] ?_ | refine gwD [] ?_); intro Q hQ hP; simp [hC, hY, hs']; (first | refine hQ _ _ _ _ (by kernel_rfl) ?_ | refine hP _ _ (by kernel_rfl) fun _ => ?_); clear hQ hP Q) | refine gwB ?_ | refine gwT ?_ | refine gwK ?_ | refine gwE ?_ | refine gwG ?_ | refine gwL ?_ | simp only [blockG_exit] | (refine gwC ?_ ?_ <;> (intro hb; first | (cases hb; done) | skip)))
            refine ⟨fun k => k, kiSt L ks off n cap off2 n cap2 g bx tp nr md st (i + 1) (.slice (some ⟨224, 0, none⟩) (i + 1) c') [(224, wRow c' g')], n - (i + 1), ?_, ⟨i + 1, _, _, by omega, .inr ⟨c', g', by omega, hc', hg', rfl, rfl⟩, rfl⟩, by omega⟩
            have hfi := fun D => Blk.fx_ids (wRow_fx c' g') D
            have hfm := fun ρ => fx_map (show Blk.fx ⟨fa (4 * c') .u64 g', .ty 28⟩ from wRow_fx c' g') ρ
            unfold wRow at hfi
            refine weakRLL (s := GS.mk _ _ _ 0) _ _ 300 hC G0F hT.ok hT.fx hC0 (by omega) ?_ ?_ ?_ ?_ (by (intro p hp; have hpb := hT.ok.big p hp; (try dsimp only); simp (disch := omega) only [addB, upd_other, hpL_cons, hpL_nil, if_neg, updL, List.cons_append, List.nil_append]; first | exact hT.mem p hp | exact cL p hp))
            · simp [kiOwn, wRow, dom, junk, ren, renA, renF, ren0, idsV, idsA, idsF, ids0, hs', hA, hS, hne]
            · simp [kiOwn, wRow, cfB, stB', wb, Blk.rn, renF, ren0, ids_lit, idsF, ids0, dom, hfi, hfm, hA, hS, hne, wi_zero]
            · simp [kiOwn]
            · intro k hk; simp <;> omega
theorem eBodyAt {b : Blk} {off n : Nat} {f : Nat → Int} (h : SB b off n f) (i : Nat) (hi : i < n) (o : Nat) (e : o = off + i * 6) : loadK Tryd.prog 46 b o = some (.agg #[.int .i64 (f (6 * i)), .int .i64 (f (6 * i + 1)), .int .i64 (f (6 * i + 2)), .int .i64 (f (6 * i + 3)), .int .i64 (f (6 * i + 4)), .int .i64 (f (6 * i + 5))]) := by rw [e]; exact h.body hi
theorem eMassAt {b : Blk} {off n : Nat} {f : Nat → Int} (h : MB b off n f) (i : Nat) (hi : i < n) (o : Nat) (e : o = off + i) : loadK Tryd.prog 3 b o = some (.int .i64 (f i)) := by rw [e]; exact h.at hi
def esqF (f : Nat → Int) (i j : Nat) : Int := f2V (f (6 * i)) (f (6 * i + 1)) (f (6 * i + 2)) (f (6 * j)) (f (6 * j + 1)) (f (6 * j + 2))
def epV (fm fs : Nat → Int) (i j : Nat) : Array Value := #[.agg #[.int .i64 (fm i), .int .i64 (fm j), .int .i64 (esqF fs i j)]]
def epXs (fm fs : Nat → Int) : Nat → List (Array Value)
  | 2 => [epV fm fs 1 0]
  | 3 => [epV fm fs 1 0, epV fm fs 2 0, epV fm fs 2 1]
  | 4 => [epV fm fs 1 0, epV fm fs 2 0, epV fm fs 2 1, epV fm fs 3 0, epV fm fs 3 1, epV fm fs 3 2]
  | _ => []
def enM (L : List (Nat × Blk)) (ks off n cap off2 n2 cap2 : Nat) (g bx tp nr md st : Int) : List (Nat × Blk) := (200, cfB (.slice (some ⟨100, off, none⟩) n cap) g bx tp nr md) :: (208, stB' st ks off2 n2 cap2) :: L
theorem enM_ok {L : List (Nat × Blk)} {ks : Nat} {bm bs : Blk} (hT : LTwo G0 L ks bm bs) (off n cap off2 n2 cap2 : Nat) (g bx tp nr md st : Int) : LOk (enM L ks off n cap off2 n2 cap2 g bx tp nr md st) 300 := by
  have hL := hT.ok
  refine ⟨?_, ?_, ?_⟩
  · intro p hp
    rcases List.mem_cons.1 hp with rfl | hp
    · simp
    · rcases List.mem_cons.1 hp with rfl | hp
      · simp
      · have := hL.big p hp; omega
  · have h2 : ∀ q, 200 ≤ q → q ∉ keys L := fun q hq h => by
      obtain ⟨p, hp, e⟩ := mem_keys.1 h
      have := hL.big p hp
      omega
    refine List.nodup_cons.2 ⟨fun h => ?_, List.nodup_cons.2 ⟨h2 208 (by omega), hL.one⟩⟩
    rcases List.mem_cons.1 h with e | h
    · exact absurd e (by simp)
    · exact h2 200 (by omega) h
  · have h1 : 100 ∈ keys (enM L ks off n cap off2 n2 cap2 g bx tp nr md st) := List.mem_cons_of_mem _ (List.mem_cons_of_mem _ hT.ia)
    have h2 : ks ∈ keys (enM L ks off n cap off2 n2 cap2 g bx tp nr md st) := List.mem_cons_of_mem _ (List.mem_cons_of_mem _ hT.ib)
    intro p hp
    rcases List.mem_cons.1 hp with rfl | hp
    · simp [cfB, ids_lit, idsF, ids0, h1]
    · rcases List.mem_cons.1 hp with rfl | hp
      · simp [stB', ids_lit, idsF, ids0, h2]
      · exact Blk.fx_ids (hT.fx p hp) _
set_option maxRecDepth 20000 in
set_option maxHeartbeats 4000000 in
theorem epairs_it1 (L : List (Nat × Blk)) (ks : Nat) (bm bs : Blk) (hT : LTwo G0 L ks bm bs) (off cap off2 cap2 : Nat) (fm fs : Nat → Int) (hm : MB bm off 1 fm) (hSb : SB bs off2 1 fs) (hcap : 1 ≤ cap2) (g bx tp nr md st : Int) :
    IterK Tryd.prog G0 70 #[.pointer (some ⟨208, 0, none⟩), .pointer (some ⟨200, 0, none⟩)] (hpL G0 (enM L ks off 1 cap off2 1 cap2 g bx tp nr md st)) (keys (enM L ks off 1 cap off2 1 cap2 g bx tp nr md st)) (epXs fm fs 1) := by
  have hL := enM_ok hT off 1 cap off2 1 cap2 g bx tp nr md st
  have hlt : ∀ k, dom (hpL G0 (enM L ks off 1 cap off2 1 cap2 g bx tp nr md st)) k → k < 300 := fun k hk => Classical.byContradiction fun h1 => hk (hL.free G0F (by omega) k (by omega))
  refine iterk_ofL (B := 300) (v := .tuple #[]) G0F Tryd.func70 rfl Tryd.call70 hL ?_ (by simp [Tryd.ntmps70]) (by omega) ?_
  · simp [idsV, idsA, idsF, ids0, enM, keys]
  intro C l stop hC hC0 hY
  have hA := hT.a
  have hS := hT.s
  have hne := hT.ne
  have hks := hT.k1
  have exs : epXs fm fs 1 = [] := rfl
  rw [exs] at hY ⊢
  have b0 := eBodyAt hSb 0 (by omega) (off2) (by omega)
  simp only [Nat.reduceMul, Nat.reduceAdd, Nat.mul_zero, Nat.zero_add] at b0
  have w0 := eMassAt hm 0 (by omega) (off) (by omega)
  unfold enM cfB stB'
  repeat' (first | refine gwS ?_ | refine GWL_start ?_ | refine GWL_step ?_ | simp only [wN, wM, Nat.reduceAdd, Nat.reduceMul] | ((first | refine gwR [] ?_ | refine gwD [] ?_); intro Q hQ hP; simp [hC, hY, hA, hS, hne, b0, w0]; (first | refine hQ _ _ _ _ (by rcases hT.k8 with h8 | h8 <;> subst h8 <;> kernel_rfl) ?_ | refine hP _ _ (by rcases hT.k8 with h8 | h8 <;> subst h8 <;> kernel_rfl) fun _ => ?_); clear hQ hP Q) | refine gwB ?_ | refine gwT ?_ | refine gwK ?_ | refine gwE ?_ | refine gwG ?_ | refine gwL ?_ | simp only [blockG_exit] | (refine gwC ?_ ?_ <;> (intro hb; first | (cases hb; done) | skip)))
  refine ⟨?_, ?_, ?_, fun k hk => ?_⟩
  · simp
  · simp [Tryd.results70]
  · first | trivial | omega | (simp; done) | (simp; omega)
  · have hk := hlt k hk
    first | rfl | (simp (disch := omega) only [upd_other] <;> rfl)
set_option maxRecDepth 20000 in
set_option maxHeartbeats 4000000 in
theorem epairs_it2 (L : List (Nat × Blk)) (ks : Nat) (bm bs : Blk) (hT : LTwo G0 L ks bm bs) (off cap off2 cap2 : Nat) (fm fs : Nat → Int) (hm : MB bm off 2 fm) (hSb : SB bs off2 2 fs) (hcap : 2 ≤ cap2) (g bx tp nr md st : Int) :
    IterK Tryd.prog G0 70 #[.pointer (some ⟨208, 0, none⟩), .pointer (some ⟨200, 0, none⟩)] (hpL G0 (enM L ks off 2 cap off2 2 cap2 g bx tp nr md st)) (keys (enM L ks off 2 cap off2 2 cap2 g bx tp nr md st)) (epXs fm fs 2) := by
  have hL := enM_ok hT off 2 cap off2 2 cap2 g bx tp nr md st
  have hlt : ∀ k, dom (hpL G0 (enM L ks off 2 cap off2 2 cap2 g bx tp nr md st)) k → k < 300 := fun k hk => Classical.byContradiction fun h1 => hk (hL.free G0F (by omega) k (by omega))
  refine iterk_ofL (B := 300) (v := .tuple #[]) G0F Tryd.func70 rfl Tryd.call70 hL ?_ (by simp [Tryd.ntmps70]) (by omega) ?_
  · simp [idsV, idsA, idsF, ids0, enM, keys]
  intro C l stop hC hC0 hY
  have hA := hT.a
  have hS := hT.s
  have hne := hT.ne
  have hks := hT.k1
  have exs : epXs fm fs 2 = [#[.agg #[.int .i64 (fm 1), .int .i64 (fm 0), .int .i64 (f2V (fs 6) (fs 7) (fs 8) (fs 0) (fs 1) (fs 2))]]] := rfl
  rw [exs] at hY ⊢
  have k1 : 1 ≤ cap2 := by omega
  have j1 : (1 : Int) ≤ (cap2 : Int) := by omega
  have b0 := eBodyAt hSb 0 (by omega) (off2) (by omega)
  simp only [Nat.reduceMul, Nat.reduceAdd, Nat.mul_zero, Nat.zero_add] at b0
  have w0 := eMassAt hm 0 (by omega) (off) (by omega)
  have b1 := eBodyAt hSb 1 (by omega) (off2 + 6) (by omega)
  simp only [Nat.reduceMul, Nat.reduceAdd, Nat.mul_zero, Nat.zero_add] at b1
  have w1 := eMassAt hm 1 (by omega) (off + 1) (by omega)
  unfold enM cfB stB'
  by_cases hst : 1 ≤ stop
  · have q0 : (0 != stop) = true := by simp; omega
    repeat' (first | refine gwS ?_ | refine GWL_start ?_ | refine GWL_step ?_ | simp only [wN, wM, Nat.reduceAdd, Nat.reduceMul] | ((first | refine gwR [] ?_ | refine gwD [] ?_); intro Q hQ hP; simp [hC, hY, hA, hS, hne, k1, j1, b0, w0, b1, w1, q0, hst]; (first | refine hQ _ _ _ _ (by rcases hT.k8 with h8 | h8 <;> subst h8 <;> kernel_rfl) ?_ | refine hP _ _ (by rcases hT.k8 with h8 | h8 <;> subst h8 <;> kernel_rfl) fun _ => ?_); clear hQ hP Q) | refine gwB ?_ | refine gwT ?_ | refine gwK ?_ | refine gwE ?_ | refine gwG ?_ | refine gwL ?_ | simp only [blockG_exit] | (refine gwC ?_ ?_ <;> (intro hb; first | (cases hb; done) | skip)))
    refine ⟨?_, ?_, ?_, fun k hk => ?_⟩
    · simp
    · simp [Tryd.results70]
    · first | trivial | omega | (simp; done) | (simp; omega)
    · have hk := hlt k hk
      first | rfl | (simp (disch := omega) only [upd_other] <;> rfl)
  · have : stop = 0 := by omega
    rcases this with rfl
    all_goals
      repeat' (first | refine gwS ?_ | refine GWL_start ?_ | refine GWL_step ?_ | simp only [wN, wM, Nat.reduceAdd, Nat.reduceMul] | ((first | refine gwR [] ?_ | refine gwD [] ?_); intro Q hQ hP; simp [hC, hY, hA, hS, hne, k1, j1, b0, w0, b1, w1]; (first | refine hQ _ _ _ _ (by rcases hT.k8 with h8 | h8 <;> subst h8 <;> kernel_rfl) ?_ | refine hP _ _ (by rcases hT.k8 with h8 | h8 <;> subst h8 <;> kernel_rfl) fun _ => ?_); clear hQ hP Q) | refine gwB ?_ | refine gwT ?_ | refine gwK ?_ | refine gwE ?_ | refine gwG ?_ | refine gwL ?_ | simp only [blockG_exit] | (refine gwC ?_ ?_ <;> (intro hb; first | (cases hb; done) | skip)))
    all_goals
      refine ⟨?_, ?_, ?_, fun k hk => ?_⟩
      · simp
      · simp [Tryd.results70]
      · first | trivial | omega | (simp; done) | (simp; omega)
      · have hk := hlt k hk
        first | rfl | (simp (disch := omega) only [upd_other] <;> rfl)
set_option maxRecDepth 20000 in
set_option maxHeartbeats 4000000 in
theorem epairs_it3 (L : List (Nat × Blk)) (ks : Nat) (bm bs : Blk) (hT : LTwo G0 L ks bm bs) (off cap off2 cap2 : Nat) (fm fs : Nat → Int) (hm : MB bm off 3 fm) (hSb : SB bs off2 3 fs) (hcap : 3 ≤ cap2) (g bx tp nr md st : Int) :
    IterK Tryd.prog G0 70 #[.pointer (some ⟨208, 0, none⟩), .pointer (some ⟨200, 0, none⟩)] (hpL G0 (enM L ks off 3 cap off2 3 cap2 g bx tp nr md st)) (keys (enM L ks off 3 cap off2 3 cap2 g bx tp nr md st)) (epXs fm fs 3) := by
  have hL := enM_ok hT off 3 cap off2 3 cap2 g bx tp nr md st
  have hlt : ∀ k, dom (hpL G0 (enM L ks off 3 cap off2 3 cap2 g bx tp nr md st)) k → k < 300 := fun k hk => Classical.byContradiction fun h1 => hk (hL.free G0F (by omega) k (by omega))
  refine iterk_ofL (B := 300) (v := .tuple #[]) G0F Tryd.func70 rfl Tryd.call70 hL ?_ (by simp [Tryd.ntmps70]) (by omega) ?_
  · simp [idsV, idsA, idsF, ids0, enM, keys]
  intro C l stop hC hC0 hY
  have hA := hT.a
  have hS := hT.s
  have hne := hT.ne
  have hks := hT.k1
  have exs : epXs fm fs 3 = [#[.agg #[.int .i64 (fm 1), .int .i64 (fm 0), .int .i64 (f2V (fs 6) (fs 7) (fs 8) (fs 0) (fs 1) (fs 2))]], #[.agg #[.int .i64 (fm 2), .int .i64 (fm 0), .int .i64 (f2V (fs 12) (fs 13) (fs 14) (fs 0) (fs 1) (fs 2))]], #[.agg #[.int .i64 (fm 2), .int .i64 (fm 1), .int .i64 (f2V (fs 12) (fs 13) (fs 14) (fs 6) (fs 7) (fs 8))]]] := rfl
  rw [exs] at hY ⊢
  have k1 : 1 ≤ cap2 := by omega
  have j1 : (1 : Int) ≤ (cap2 : Int) := by omega
  have k2 : 2 ≤ cap2 := by omega
  have j2 : (2 : Int) ≤ (cap2 : Int) := by omega
  have b0 := eBodyAt hSb 0 (by omega) (off2) (by omega)
  simp only [Nat.reduceMul, Nat.reduceAdd, Nat.mul_zero, Nat.zero_add] at b0
  have w0 := eMassAt hm 0 (by omega) (off) (by omega)
  have b1 := eBodyAt hSb 1 (by omega) (off2 + 6) (by omega)
  simp only [Nat.reduceMul, Nat.reduceAdd, Nat.mul_zero, Nat.zero_add] at b1
  have w1 := eMassAt hm 1 (by omega) (off + 1) (by omega)
  have b2 := eBodyAt hSb 2 (by omega) (off2 + 12) (by omega)
  simp only [Nat.reduceMul, Nat.reduceAdd, Nat.mul_zero, Nat.zero_add] at b2
  have w2 := eMassAt hm 2 (by omega) (off + 2) (by omega)
  unfold enM cfB stB'
  by_cases hst : 3 ≤ stop
  · have q0 : (0 != stop) = true := by simp; omega
    have q1 : (1 != stop) = true := by simp; omega
    have l1 : 1 ≤ stop := by omega
    have q2 : (2 != stop) = true := by simp; omega
    have l2 : 2 ≤ stop := by omega
    repeat' (first | refine gwS ?_ | refine GWL_start ?_ | refine GWL_step ?_ | simp only [wN, wM, Nat.reduceAdd, Nat.reduceMul] | ((first | refine gwR [] ?_ | refine gwD [] ?_); intro Q hQ hP; simp [hC, hY, hA, hS, hne, k1, j1, k2, j2, b0, w0, b1, w1, b2, w2, q0, q1, l1, q2, l2, hst]; (first | refine hQ _ _ _ _ (by rcases hT.k8 with h8 | h8 <;> subst h8 <;> kernel_rfl) ?_ | refine hP _ _ (by rcases hT.k8 with h8 | h8 <;> subst h8 <;> kernel_rfl) fun _ => ?_); clear hQ hP Q) | refine gwB ?_ | refine gwT ?_ | refine gwK ?_ | refine gwE ?_ | refine gwG ?_ | refine gwL ?_ | simp only [blockG_exit] | (refine gwC ?_ ?_ <;> (intro hb; first | (cases hb; done) | skip)))
    refine ⟨?_, ?_, ?_, fun k hk => ?_⟩
    · simp
    · simp [Tryd.results70]
    · first | trivial | omega | (simp; done) | (simp; omega)
    · have hk := hlt k hk
      first | rfl | (simp (disch := omega) only [upd_other] <;> rfl)
  · have : stop = 0 ∨ stop = 1 ∨ stop = 2 := by omega
    rcases this with rfl | rfl | rfl
    all_goals
      repeat' (first | refine gwS ?_ | refine GWL_start ?_ | refine GWL_step ?_ | simp only [wN, wM, Nat.reduceAdd, Nat.reduceMul] | ((first | refine gwR [] ?_ | refine gwD [] ?_); intro Q hQ hP; simp [hC, hY, hA, hS, hne, k1, j1, k2, j2, b0, w0, b1, w1, b2, w2]; (first | refine hQ _ _ _ _ (by rcases hT.k8 with h8 | h8 <;> subst h8 <;> kernel_rfl) ?_ | refine hP _ _ (by rcases hT.k8 with h8 | h8 <;> subst h8 <;> kernel_rfl) fun _ => ?_); clear hQ hP Q) | refine gwB ?_ | refine gwT ?_ | refine gwK ?_ | refine gwE ?_ | refine gwG ?_ | refine gwL ?_ | simp only [blockG_exit] | (refine gwC ?_ ?_ <;> (intro hb; first | (cases hb; done) | skip)))
    all_goals
      refine ⟨?_, ?_, ?_, fun k hk => ?_⟩
      · simp
      · simp [Tryd.results70]
      · first | trivial | omega | (simp; done) | (simp; omega)
      · have hk := hlt k hk
        first | rfl | (simp (disch := omega) only [upd_other] <;> rfl)
set_option maxRecDepth 20000 in
set_option maxHeartbeats 4000000 in
theorem epairs_it4 (L : List (Nat × Blk)) (ks : Nat) (bm bs : Blk) (hT : LTwo G0 L ks bm bs) (off cap off2 cap2 : Nat) (fm fs : Nat → Int) (hm : MB bm off 4 fm) (hSb : SB bs off2 4 fs) (hcap : 4 ≤ cap2) (g bx tp nr md st : Int) :
    IterK Tryd.prog G0 70 #[.pointer (some ⟨208, 0, none⟩), .pointer (some ⟨200, 0, none⟩)] (hpL G0 (enM L ks off 4 cap off2 4 cap2 g bx tp nr md st)) (keys (enM L ks off 4 cap off2 4 cap2 g bx tp nr md st)) (epXs fm fs 4) := by
  have hL := enM_ok hT off 4 cap off2 4 cap2 g bx tp nr md st
  have hlt : ∀ k, dom (hpL G0 (enM L ks off 4 cap off2 4 cap2 g bx tp nr md st)) k → k < 300 := fun k hk => Classical.byContradiction fun h1 => hk (hL.free G0F (by omega) k (by omega))
  refine iterk_ofL (B := 300) (v := .tuple #[]) G0F Tryd.func70 rfl Tryd.call70 hL ?_ (by simp [Tryd.ntmps70]) (by omega) ?_
  · simp [idsV, idsA, idsF, ids0, enM, keys]
  intro C l stop hC hC0 hY
  have hA := hT.a
  have hS := hT.s
  have hne := hT.ne
  have hks := hT.k1
  have exs : epXs fm fs 4 = [#[.agg #[.int .i64 (fm 1), .int .i64 (fm 0), .int .i64 (f2V (fs 6) (fs 7) (fs 8) (fs 0) (fs 1) (fs 2))]], #[.agg #[.int .i64 (fm 2), .int .i64 (fm 0), .int .i64 (f2V (fs 12) (fs 13) (fs 14) (fs 0) (fs 1) (fs 2))]], #[.agg #[.int .i64 (fm 2), .int .i64 (fm 1), .int .i64 (f2V (fs 12) (fs 13) (fs 14) (fs 6) (fs 7) (fs 8))]], #[.agg #[.int .i64 (fm 3), .int .i64 (fm 0), .int .i64 (f2V (fs 18) (fs 19) (fs 20) (fs 0) (fs 1) (fs 2))]], #[.agg #[.int .i64 (fm 3), .int .i64 (fm 1), .int .i64 (f2V (fs 18) (fs 19) (fs 20) (fs 6) (fs 7) (fs 8))]], #[.agg #[.int .i64 (fm 3), .int .i64 (fm 2), .int .i64 (f2V (fs 18) (fs 19) (fs 20) (fs 12) (fs 13) (fs 14))]]] := rfl
  rw [exs] at hY ⊢
  have k1 : 1 ≤ cap2 := by omega
  have j1 : (1 : Int) ≤ (cap2 : Int) := by omega
  have k2 : 2 ≤ cap2 := by omega
  have j2 : (2 : Int) ≤ (cap2 : Int) := by omega
  have k3 : 3 ≤ cap2 := by omega
  have j3 : (3 : Int) ≤ (cap2 : Int) := by omega
  have b0 := eBodyAt hSb 0 (by omega) (off2) (by omega)
  simp only [Nat.reduceMul, Nat.reduceAdd, Nat.mul_zero, Nat.zero_add] at b0
  have w0 := eMassAt hm 0 (by omega) (off) (by omega)
  have b1 := eBodyAt hSb 1 (by omega) (off2 + 6) (by omega)
  simp only [Nat.reduceMul, Nat.reduceAdd, Nat.mul_zero, Nat.zero_add] at b1
  have w1 := eMassAt hm 1 (by omega) (off + 1) (by omega)
  have b2 := eBodyAt hSb 2 (by omega) (off2 + 12) (by omega)
  simp only [Nat.reduceMul, Nat.reduceAdd, Nat.mul_zero, Nat.zero_add] at b2
  have w2 := eMassAt hm 2 (by omega) (off + 2) (by omega)
  have b3 := eBodyAt hSb 3 (by omega) (off2 + 18) (by omega)
  simp only [Nat.reduceMul, Nat.reduceAdd, Nat.mul_zero, Nat.zero_add] at b3
  have w3 := eMassAt hm 3 (by omega) (off + 3) (by omega)
  unfold enM cfB stB'
  by_cases hst : 6 ≤ stop
  · have q0 : (0 != stop) = true := by simp; omega
    have q1 : (1 != stop) = true := by simp; omega
    have l1 : 1 ≤ stop := by omega
    have q2 : (2 != stop) = true := by simp; omega
    have l2 : 2 ≤ stop := by omega
    have q3 : (3 != stop) = true := by simp; omega
    have l3 : 3 ≤ stop := by omega
    have q4 : (4 != stop) = true := by simp; omega
    have l4 : 4 ≤ stop := by omega
    have q5 : (5 != stop) = true := by simp; omega
    have l5 : 5 ≤ stop := by omega
    repeat' (first | refine gwS ?_ | refine GWL_start ?_ | refine GWL_step ?_ | simp only [wN, wM, Nat.reduceAdd, Nat.reduceMul] | ((first | refine gwR [] ?_ | refine gwD [] ?_); intro Q hQ hP; simp [hC, hY, hA, hS, hne, k1, j1, k2, j2, k3, j3, b0, w0, b1, w1, b2, w2, b3, w3, q0, q1, l1, q2, l2, q3, l3, q4, l4, q5, l5, hst]; (first | refine hQ _ _ _ _ (by rcases hT.k8 with h8 | h8 <;> subst h8 <;> kernel_rfl) ?_ | refine hP _ _ (by rcases hT.k8 with h8 | h8 <;> subst h8 <;> kernel_rfl) fun _ => ?_); clear hQ hP Q) | refine gwB ?_ | refine gwT ?_ | refine gwK ?_ | refine gwE ?_ | refine gwG ?_ | refine gwL ?_ | simp only [blockG_exit] | (refine gwC ?_ ?_ <;> (intro hb; first | (cases hb; done) | skip)))
    refine ⟨?_, ?_, ?_, fun k hk => ?_⟩
    · simp
    · simp [Tryd.results70]
    · first | trivial | omega | (simp; done) | (simp; omega)
    · have hk := hlt k hk
      first | rfl | (simp (disch := omega) only [upd_other] <;> rfl)
  · have : stop = 0 ∨ stop = 1 ∨ stop = 2 ∨ stop = 3 ∨ stop = 4 ∨ stop = 5 := by omega
    rcases this with rfl | rfl | rfl | rfl | rfl | rfl
    all_goals
      repeat' (first | refine gwS ?_ | refine GWL_start ?_ | refine GWL_step ?_ | simp only [wN, wM, Nat.reduceAdd, Nat.reduceMul] | ((first | refine gwR [] ?_ | refine gwD [] ?_); intro Q hQ hP; simp [hC, hY, hA, hS, hne, k1, j1, k2, j2, k3, j3, b0, w0, b1, w1, b2, w2, b3, w3]; (first | refine hQ _ _ _ _ (by rcases hT.k8 with h8 | h8 <;> subst h8 <;> kernel_rfl) ?_ | refine hP _ _ (by rcases hT.k8 with h8 | h8 <;> subst h8 <;> kernel_rfl) fun _ => ?_); clear hQ hP Q) | refine gwB ?_ | refine gwT ?_ | refine gwK ?_ | refine gwE ?_ | refine gwG ?_ | refine gwL ?_ | simp only [blockG_exit] | (refine gwC ?_ ?_ <;> (intro hb; first | (cases hb; done) | skip)))
    all_goals
      refine ⟨?_, ?_, ?_, fun k hk => ?_⟩
      · simp
      · simp [Tryd.results70]
      · first | trivial | omega | (simp; done) | (simp; omega)
      · have hk := hlt k hk
        first | rfl | (simp (disch := omega) only [upd_other] <;> rfl)
def EPairsR (nk ks off n cap off2 n2 cap2 : Nat) (g bx tp nr md st : Int) (v : Value) (ns : List (Nat × Blk)) : Prop :=
  v = .func (.func 70) #[] #[.pointer (some ⟨nk + 1, 0, none⟩), .pointer (some ⟨nk, 0, none⟩)] ∧ ns = [(nk, cfB (.slice (some ⟨100, off, none⟩) n cap) g bx tp nr md), (nk + 1, stB' st ks off2 n2 cap2)]
theorem epairsR_key {nk ks off n cap off2 n2 cap2 : Nat} {g bx tp nr md st : Int} {v : Value} {ns : List (Nat × Blk)} (h : EPairsR nk ks off n cap off2 n2 cap2 g bx tp nr md st v ns) : ∀ k ∈ keys ns, nk ≤ k ∧ k < nk + 2 := by
  obtain ⟨rfl, rfl⟩ := h
  intro k hk
  simp [keys] at hk
  omega
theorem epairs_L (L : List (Nat × Blk)) (ks : Nat) (bm bs : Blk) (hT : LTwo G0 L ks bm bs) (off n cap off2 n2 cap2 : Nat) (g bx tp nr md st : Int) :
    FunS Tryd.prog G0 53 #[cfV (.slice (some ⟨100, off, none⟩) n cap) g bx tp nr md, .agg #[.int .i64 st, .slice (some ⟨ks, off2, none⟩) n2 cap2]] (hpL G0 L) (keys L) (EPairsR 1000 ks off n cap off2 n2 cap2 g bx tp nr md st) := by
  refine newS_ofL (B := 200) G0F Tryd.func53 rfl Tryd.call53 hT.ok ?_ ?_ (by simp [Tryd.ntmps53]) (by omega) ?_
  · simp [idsV, idsA, idsF, ids0, hT.ia, hT.ib, cfV]
  · rintro v ns ⟨rfl, rfl⟩
    have ha : extD (fun k => k ∈ keys L) [(1000, cfB (.slice (some ⟨100, off, none⟩) n cap) g bx tp nr md), (1000 + 1, stB' st ks off2 n2 cap2)] 100 := .inl hT.ia
    have hb : extD (fun k => k ∈ keys L) [(1000, cfB (.slice (some ⟨100, off, none⟩) n cap) g bx tp nr md), (1000 + 1, stB' st ks off2 n2 cap2)] ks := .inl hT.ib
    refine ⟨by simp [idsV, idsA, idsF, ids0, extD, keys], ?_, ?_⟩
    · intro p hp
      simp only [List.mem_cons, List.not_mem_nil, or_false] at hp
      rcases hp with rfl | rfl
      · exact ⟨by omega, by simp [cfB, ids_lit, idsF, ids0]; exact ha⟩
      · exact ⟨by omega, by simp [stB', ids_lit, idsF, ids0]; exact hb⟩
    · intro k b c h1 h2
      simp at h1 h2
      rcases h1 with ⟨e1, rfl⟩ | ⟨e1, rfl⟩ <;> rcases h2 with ⟨e2, rfl⟩ | ⟨e2, rfl⟩ <;> first | rfl | omega
  intro C hC hC0 hY
  have hA := hT.a
  have hS := hT.s
  have hne := hT.ne
  have hLow := hT.low
  have hks := hT.k1
  have hks2 := hT.k2
  unfold cfV
  repeat' (first | refine gwS ?_ | simp only [wN, wM, Nat.reduceAdd, Nat.reduceMul] | ((first | refine gwR [] ?_ | refine gwD [] ?_); intro Q hQ hP; simp [hC, hY, hA, hS, hne]; (first | refine hQ _ _ _ _ (by kernel_rfl) ?_ | refine hP _ _ (by kernel_rfl) fun _ => ?_); clear hQ hP Q) | refine gwB ?_ | refine gwT ?_ | refine gwK ?_ | refine gwE ?_ | refine gwG ?_ | refine gwL ?_ | simp only [blockG_exit] | (refine gwC ?_ ?_ <;> (intro hb; first | (cases hb; done) | skip)))
  refine ⟨.inr trivial, keep_of G0F (by (intro p hp; have hpb := hT.ok.big p hp; first | rfl | (simp (disch := omega) only [addB, upd_other, hpL_cons, hpL_nil, if_neg, updL, List.cons_append, List.nil_append] <;> done))) (by (intro k hk; first | exact hLow k hk | (simp (disch := omega) only [hLow, addB, List.mem_cons, List.not_mem_nil, or_false, upd_other, hpL_cons, hpL_nil, if_neg, updL, List.cons_append, List.nil_append] <;> done))), _, _, fun k => if k = 1000 then 200 else if k = 1001 then 208 else k, ⟨rfl, rfl⟩, fun k hk => ?_, by simp, by simp, by simp [Tryd.results53, ren, renA, renF, ren0], ?_⟩
  · dsimp only
    rw [if_neg (by omega), if_neg (by omega)]
  · have h1 : ¬ ks = 1000 := by omega
    have h2 : ¬ ks = 1001 := by omega
    simp [cfB, stB', Blk.rn, renF, ren0, h1, h2]
theorem eless_fun (t a : Int) : Fun Tryd.prog G0 35 #[wd a, .pointer (some ⟨100, 0, none⟩)] (hpL G0 [(100, wb t)]) (keys [(100, wb t)]) (.ret (wd (t - a)) []) := by
  refine fun_ofL (B := 200) G0F Tryd.func35 rfl Tryd.call35 ⟨by simp, by simp [keys], by simp [wb, ids_lit, idsF, ids0]⟩ ?_ (flatV_ids (by simp)) (by simp) (by simp) (by simp [Tryd.ntmps35]) (by omega) ?_
  · intro x hx
    simp only [List.mem_toArray, List.mem_cons, List.not_mem_nil, or_false] at hx
    rcases hx with rfl | rfl
    · exact flatV_ids (by simp)
    · simp [idsV, idsA, idsF, ids0, keys]
  intro C hC hC0 hY
  repeat' (first | refine gwS ?_ | simp only [wN, wM, Nat.reduceAdd, Nat.reduceMul] | ((first | refine gwR [] ?_ | refine gwD [] ?_); intro Q hQ hP; simp [hC, hY, wb]; (first | refine hQ _ _ _ _ (by kernel_rfl) ?_ | refine hP _ _ (by kernel_rfl) fun _ => ?_); clear hQ hP Q) | refine gwB ?_ | refine gwT ?_ | refine gwK ?_ | refine gwE ?_ | refine gwG ?_ | refine gwL ?_ | simp only [blockG_exit] | (refine gwC ?_ ?_ <;> (intro hb; first | (cases hb; done) | skip)))
  refine ⟨.inr rfl, by simp [Tryd.results35], keep_of G0F (by simp [wb]) (by (intro k hk; first | rfl | (simp (disch := omega) only [addB, List.mem_cons, List.not_mem_nil, or_false, upd_other, hpL_cons, hpL_nil, if_neg, updL] <;> done)))⟩
theorem epairsR_rr {nk nk' ks off n cap off2 n2 cap2 : Nat} {g bx tp nr md st : Int} {ρ : Nat → Nat} (h100 : ρ 100 = 100) (hk : ρ ks = ks) (h0 : ρ nk = nk') (h1 : ρ (nk + 1) = nk' + 1) :
    RR ρ (EPairsR nk ks off n cap off2 n2 cap2 g bx tp nr md st) = EPairsR nk' ks off n cap off2 n2 cap2 g bx tp nr md st := by
  funext v ns
  apply propext
  constructor
  · rintro ⟨v0, ns0, ⟨rfl, rfl⟩, rfl, rfl⟩
    exact ⟨by simp [ren, renA, renF, ren0, h0, h1], by simp [rnL, cfB, stB', Blk.rn, renF, ren0, h100, hk, h0, h1]⟩
  · rintro ⟨rfl, rfl⟩
    exact ⟨_, _, ⟨rfl, rfl⟩, by simp [ren, renA, renF, ren0, h0, h1], by simp [rnL, cfB, stB', Blk.rn, renF, ren0, h100, hk, h0, h1]⟩
theorem epairs_at (nk : Nat) (hnk : 200 ≤ nk) (L : List (Nat × Blk)) (ks : Nat) (bm bs : Blk) (hT : LTwo G0 L ks bm bs) (off n cap off2 n2 cap2 : Nat) (g bx tp nr md st : Int) :
    FunS Tryd.prog G0 53 #[cfV (.slice (some ⟨100, off, none⟩) n cap) g bx tp nr md, .agg #[.int .i64 st, .slice (some ⟨ks, off2, none⟩) n2 cap2]] (hpL G0 L) (keys L) (EPairsR nk ks off n cap off2 n2 cap2 g bx tp nr md st) := by
  have e2 : ∀ j, j < 2 → up2 nk (1000 + j) = nk + j := fun j hj => by unfold up2; rw [if_pos (by omega), if_pos (by omega)]; omega
  have hlow : ∀ k, k < 1000 → up2 nk k = k := fun k hk => by unfold up2; rw [if_neg (by omega)]
  have hk2 := hT.k2
  have hid : ∀ k ∈ keys L, up2 nk k = k := fun k hk => by
    obtain ⟨p, hp, rfl⟩ := mem_keys.1 hk
    have := hT.ok.big p hp
    exact hlow _ (by omega)
  have hkk : ∀ v ns, EPairsR 1000 ks off n cap off2 n2 cap2 g bx tp nr md st v ns → ∀ k ∈ keys ns, ∃ j, j < 2 ∧ k = 1000 + j := by
    intro v ns hV k hk
    have := epairsR_key hV k hk
    exact ⟨k - 1000, by omega, by omega⟩
  refine (epairs_L L ks bm bs hT off n cap off2 n2 cap2 g bx tp nr md st).mvL (hp' := hpL G0 L) (rs' := keys L) G0F hT.ok (up2 nk) (fun k hk => hlow k (by omega)) ?_ ?_ (epairsR_rr (hlow _ (by omega)) (hlow _ (by omega)) (e2 0 (by omega)) (e2 1 (by omega))) hT.ok.low ?_ ?_ (fun v ns hV k hk => ?_) (fun v ns hV k hk l hl e => ?_)
  · simp [cfV, ren, renA, renF, ren0, hlow 100 (by omega), hlow ks (by omega)]
  · rw [List.map_congr_left hid]; simp
  · intro p hp
    have hb := hT.ok.big p hp
    rw [hlow p.1 (by omega), Blk.fx_rn (hT.fx p hp)]
    exact ⟨hb.1, hT.mem p hp⟩
  · intro k hk l hl e
    rw [hid k hk, hid l hl] at e
    exact e
  · obtain ⟨j, hj, rfl⟩ := hkk v ns hV k hk
    rw [e2 j hj]
    refine ⟨by omega, fun h => ?_⟩
    obtain ⟨p, hp, e⟩ := mem_keys.1 h
    have := hT.ok.big p hp
    omega
  · obtain ⟨j, hj, rfl⟩ := hkk v ns hV k hk
    obtain ⟨i, hi, rfl⟩ := hkk v ns hV l hl
    rw [e2 j hj, e2 i hi] at e
    omega
def epIx : Nat → List (Nat × Nat)
  | 2 => [(1, 0)]
  | 3 => [(1, 0), (2, 0), (2, 1)]
  | 4 => [(1, 0), (2, 0), (2, 1), (3, 0), (3, 1), (3, 2)]
  | _ => []
theorem epXs_map (fm fs : Nat → Int) {n : Nat} (hn : 1 ≤ n ∧ n ≤ 4) : epXs fm fs n = (epIx n).map fun p => epV fm fs p.1 p.2 := by
  have : n = 1 ∨ n = 2 ∨ n = 3 ∨ n = 4 := by omega
  rcases this with rfl | rfl | rfl | rfl <;> rfl
theorem epIx_lt {n : Nat} {p : Nat × Nat} (h : p ∈ epIx n) : p.2 < p.1 ∧ p.1 < n := by
  unfold epIx at h
  split at h <;> simp at h
  · subst h; simp
  · rcases h with rfl | rfl | rfl <;> simp
  · rcases h with rfl | rfl | rfl | rfl | rfl | rfl <;> simp
def pS (F : Nat → Nat → Int) : List (Nat × Nat) → Int
  | [] => 0
  | p :: l => F p.1 p.2 + pS F l
theorem pS_app (F : Nat → Nat → Int) : ∀ l m, pS F (l ++ m) = pS F l + pS F m
  | [], m => by simp [pS]
  | p :: l, m => by
    simp only [List.cons_append, pS, pS_app F l m]
    omega
theorem pS_take (F : Nat → Nat → Int) {l : List (Nat × Nat)} {j : Nat} (hj : j < l.length) : pS F (l.take (j + 1)) = pS F (l.take j) + F l[j].1 l[j].2 := by
  rw [show l.take (j + 1) = l.take j ++ [l[j]] by simp, pS_app]
  simp [pS]
theorem sum2_ep (F : Nat → Nat → Int) {n : Nat} (hn : 1 ≤ n ∧ n ≤ 4) : sum2 F n = pS F (epIx n) := by
  have : n = 1 ∨ n = 2 ∨ n = 3 ∨ n = 4 := by omega
  rcases this with rfl | rfl | rfl | rfl <;> simp only [sum2, sumN, pS, epIx] <;> omega
theorem epairs_it (L : List (Nat × Blk)) (ks : Nat) (bm bs : Blk) (hT : LTwo G0 L ks bm bs) (off n cap off2 cap2 : Nat) (fm fs : Nat → Int) (hm : MB bm off n fm) (hSb : SB bs off2 n fs) (hcap : n ≤ cap2) (hn : 1 ≤ n ∧ n ≤ 4) (g bx tp nr md st : Int) :
    IterK Tryd.prog G0 70 #[.pointer (some ⟨208, 0, none⟩), .pointer (some ⟨200, 0, none⟩)] (hpL G0 (enM L ks off n cap off2 n cap2 g bx tp nr md st)) (keys (enM L ks off n cap off2 n cap2 g bx tp nr md st)) ((epIx n).map fun p => epV fm fs p.1 p.2) := by
  rw [← epXs_map fm fs hn]
  have : n = 1 ∨ n = 2 ∨ n = 3 ∨ n = 4 := by omega
  rcases this with rfl | rfl | rfl | rfl
  · exact epairs_it1 L ks bm bs hT off cap off2 cap2 fm fs hm hSb hcap g bx tp nr md st
  · exact epairs_it2 L ks bm bs hT off cap off2 cap2 fm fs hm hSb hcap g bx tp nr md st
  · exact epairs_it3 L ks bm bs hT off cap off2 cap2 fm fs hm hSb hcap g bx tp nr md st
  · exact epairs_it4 L ks bm bs hT off cap off2 cap2 fm fs hm hSb hcap g bx tp nr md st
def potLo (g : Int) (fm fs : Nat → Int) (n : Nat) : Int := sum2 (fun i k => enLo g (fm i) (fm k) (esqF fs i k)) n
def potHi (g : Int) (fm fs : Nat → Int) (n : Nat) : Int := sum2 (fun i k => enHi g (fm i) (fm k) (esqF fs i k)) n
def potZ (fs : Nat → Int) (n : Nat) : Int := sum2 (fun i k => if esqF fs i k = 0 then 1 else 0) n
theorem esq_in {st : Int} {fs : Nat → Int} {n : Nat} (hr : rightB st fs n = true) {i k : Nat} (hi : i < n) (hk : k < n) : 0 ≤ esqF fs i k ∧ esqF fs i k ≤ 13194139533312 := by
  obtain ⟨⟨⟨_, a0, a1⟩, ⟨_, b0, b1⟩, ⟨_, c0, c1⟩⟩, _⟩ := right_b hr hi
  obtain ⟨⟨⟨_, d0, d1⟩, ⟨_, e0, e1⟩, ⟨_, f0, f1⟩⟩, _⟩ := right_b hr hk
  have s0 := sq_in (a := fs (6 * i) - fs (6 * k)) (m := 2097152) ⟨by omega, by omega, by omega⟩
  have s1 := sq_in (a := fs (6 * i + 1) - fs (6 * k + 1)) (m := 2097152) ⟨by omega, by omega, by omega⟩
  have s2 := sq_in (a := fs (6 * i + 2) - fs (6 * k + 2)) (m := 2097152) ⟨by omega, by omega, by omega⟩
  unfold esqF f2V
  split <;> omega
theorem heapK_slA {f : FuncId} {c : Array Value} {T : TypeId} {n nk b : Nat} {x : Int} {v : Value} {hp : Hp} {K : Eff → Prop} (h : Fun Tryd.prog G0 f #[.int .i64 x, .slice (some ⟨100, 0, none⟩) n n] (hpL G0 [(100, ⟨c, .ty T⟩)]) [100] (.ret v [])) (hc : ∀ x ∈ c, flatF x = true) (hv : flatV v = true) (hb : 100 ≤ b)
    (h1 : hp b = some ⟨c, .ty T⟩) (hK : K ((Res.ret v []).eff [b])) : heapK Tryd.prog G0 f #[.int .i64 x, .slice (some ⟨b, 0, none⟩) n n] hp nk K :=
  heapK_mv h G0F (B := 200) ⟨by simp, by simp [keys], fun p hp1 => by simp at hp1; subst hp1; exact fun x hx => flatF_ids (hc x hx)⟩ (fun k => if k = 100 then b else k) (fun k hk => if_neg (by omega)) (by simp [ren, renA, renF, ren0]) hv
    (by simp [hb, h1, Blk.rn]; exact (map_eq_self (fun x hx => flatF_ren (hc x hx))).symm) (by simp [keys]) (by simp [keys]) hK
theorem heapK_slB {f : FuncId} {c : Array Value} {T : TypeId} {n nk b : Nat} {v : Value} {hp : Hp} {K : Eff → Prop} (h : Fun Tryd.prog G0 f #[.slice (some ⟨100, 0, none⟩) n n] (hpL G0 [(100, ⟨c, .ty T⟩)]) [100] (.ret v [])) (hc : ∀ x ∈ c, flatF x = true) (hv : flatV v = true) (hb : 100 ≤ b)
    (h1 : hp b = some ⟨c, .ty T⟩) (hK : K ((Res.ret v []).eff [b])) : heapK Tryd.prog G0 f #[.slice (some ⟨b, 0, none⟩) n n] hp nk K :=
  heapK_mv h G0F (B := 200) ⟨by simp, by simp [keys], fun p hp1 => by simp at hp1; subst hp1; exact fun x hx => flatF_ids (hc x hx)⟩ (fun k => if k = 100 then b else k) (fun k hk => if_neg (by omega)) (by simp [ren, renA, renF, ren0]) hv
    (by simp [hb, h1, Blk.rn]; exact (map_eq_self (fun x hx => flatF_ren (hc x hx))).symm) (by simp [keys]) (by simp [keys]) hK
theorem ewithin1 (most n0 : Int) : Fun Tryd.prog G0 22 #[.int .i64 most, .slice (some ⟨100, 0, none⟩) 1 1] (hpL G0 [(100, ⟨#[.int .i64 n0], .ty 3⟩)]) (keys [(100, (⟨#[.int .i64 n0], .ty 3⟩ : Blk))]) (.ret (.bool (decide ((1 ≤ n0 ∧ n0 ≤ most)))) []) := by
  refine fun_ofL (B := 200) G0F Tryd.func22 rfl Tryd.call22 ⟨by simp, by simp [keys], by simp [ids_lit, idsF, ids0]⟩ ?_ (by simp) (by simp) (by simp) (by simp [Tryd.ntmps22]) (by omega) ?_
  · simp [idsV, idsA, idsF, ids0, keys]
  intro C hC hC0 hY
  by_cases a00 : 1 ≤ n0
  rotate_left
  · have a00n : n0 < 1 := by omega
    have hd : decide ((1 ≤ n0 ∧ n0 ≤ most)) = false := decide_eq_false (by omega)
    rw [hd]
    repeat' (first | refine gwS ?_ | refine GWL_start ?_ | refine GWL_step ?_ | simp only [wN, wM, Nat.reduceAdd, Nat.reduceMul] | ((first | refine gwR [] ?_ | refine gwD [] ?_); intro Q hQ hP; simp [hC, hY, a00, a00n]; (first | refine hQ _ _ _ _ (by kernel_rfl) ?_ | refine hP _ _ (by kernel_rfl) fun _ => ?_); clear hQ hP Q) | refine gwB ?_ | refine gwT ?_ | refine gwK ?_ | refine gwE ?_ | refine gwG ?_ | refine gwL ?_ | simp only [blockG_exit] | (refine gwC ?_ ?_ <;> (intro hb; first | (cases hb; done) | skip)))
    refine ⟨.inr rfl, by simp [Tryd.results22], keep_of G0F (by simp) (by (intro k hk; first | rfl | (simp (disch := omega) only [addB, List.mem_cons, List.not_mem_nil, or_false, upd_other, hpL_cons, hpL_nil, if_neg, updL] <;> done)))⟩
  have a00n : ¬ n0 < 1 := by omega
  by_cases a01 : n0 ≤ most
  rotate_left
  · have a01n : most < n0 := by omega
    have hd : decide ((1 ≤ n0 ∧ n0 ≤ most)) = false := decide_eq_false (by omega)
    rw [hd]
    repeat' (first | refine gwS ?_ | refine GWL_start ?_ | refine GWL_step ?_ | simp only [wN, wM, Nat.reduceAdd, Nat.reduceMul] | ((first | refine gwR [] ?_ | refine gwD [] ?_); intro Q hQ hP; simp [hC, hY, a00, a00n, a01, a01n]; (first | refine hQ _ _ _ _ (by kernel_rfl) ?_ | refine hP _ _ (by kernel_rfl) fun _ => ?_); clear hQ hP Q) | refine gwB ?_ | refine gwT ?_ | refine gwK ?_ | refine gwE ?_ | refine gwG ?_ | refine gwL ?_ | simp only [blockG_exit] | (refine gwC ?_ ?_ <;> (intro hb; first | (cases hb; done) | skip)))
    refine ⟨.inr rfl, by simp [Tryd.results22], keep_of G0F (by simp) (by (intro k hk; first | rfl | (simp (disch := omega) only [addB, List.mem_cons, List.not_mem_nil, or_false, upd_other, hpL_cons, hpL_nil, if_neg, updL] <;> done)))⟩
  have a01n : ¬ most < n0 := by omega
  have hd : decide ((1 ≤ n0 ∧ n0 ≤ most)) = true := decide_eq_true (by omega)
  rw [hd]
  repeat' (first | refine gwS ?_ | refine GWL_start ?_ | refine GWL_step ?_ | simp only [wN, wM, Nat.reduceAdd, Nat.reduceMul] | ((first | refine gwR [] ?_ | refine gwD [] ?_); intro Q hQ hP; simp [hC, hY, a00, a00n, a01, a01n]; (first | refine hQ _ _ _ _ (by kernel_rfl) ?_ | refine hP _ _ (by kernel_rfl) fun _ => ?_); clear hQ hP Q) | refine gwB ?_ | refine gwT ?_ | refine gwK ?_ | refine gwE ?_ | refine gwG ?_ | refine gwL ?_ | simp only [blockG_exit] | (refine gwC ?_ ?_ <;> (intro hb; first | (cases hb; done) | skip)))
  refine ⟨.inr rfl, by simp [Tryd.results22], keep_of G0F (by simp) (by (intro k hk; first | rfl | (simp (disch := omega) only [addB, List.mem_cons, List.not_mem_nil, or_false, upd_other, hpL_cons, hpL_nil, if_neg, updL] <;> done)))⟩
theorem ewithin2 (most n0 n1 : Int) : Fun Tryd.prog G0 22 #[.int .i64 most, .slice (some ⟨100, 0, none⟩) 2 2] (hpL G0 [(100, ⟨#[.int .i64 n0, .int .i64 n1], .ty 3⟩)]) (keys [(100, (⟨#[.int .i64 n0, .int .i64 n1], .ty 3⟩ : Blk))]) (.ret (.bool (decide ((1 ≤ n0 ∧ n0 ≤ most) ∧ (1 ≤ n1 ∧ n1 ≤ most)))) []) := by
  refine fun_ofL (B := 200) G0F Tryd.func22 rfl Tryd.call22 ⟨by simp, by simp [keys], by simp [ids_lit, idsF, ids0]⟩ ?_ (by simp) (by simp) (by simp) (by simp [Tryd.ntmps22]) (by omega) ?_
  · simp [idsV, idsA, idsF, ids0, keys]
  intro C hC hC0 hY
  by_cases a00 : 1 ≤ n0
  rotate_left
  · have a00n : n0 < 1 := by omega
    have hd : decide ((1 ≤ n0 ∧ n0 ≤ most) ∧ (1 ≤ n1 ∧ n1 ≤ most)) = false := decide_eq_false (by omega)
    rw [hd]
    repeat' (first | refine gwS ?_ | refine GWL_start ?_ | refine GWL_step ?_ | simp only [wN, wM, Nat.reduceAdd, Nat.reduceMul] | ((first | refine gwR [] ?_ | refine gwD [] ?_); intro Q hQ hP; simp [hC, hY, a00, a00n]; (first | refine hQ _ _ _ _ (by kernel_rfl) ?_ | refine hP _ _ (by kernel_rfl) fun _ => ?_); clear hQ hP Q) | refine gwB ?_ | refine gwT ?_ | refine gwK ?_ | refine gwE ?_ | refine gwG ?_ | refine gwL ?_ | simp only [blockG_exit] | (refine gwC ?_ ?_ <;> (intro hb; first | (cases hb; done) | skip)))
    refine ⟨.inr rfl, by simp [Tryd.results22], keep_of G0F (by simp) (by (intro k hk; first | rfl | (simp (disch := omega) only [addB, List.mem_cons, List.not_mem_nil, or_false, upd_other, hpL_cons, hpL_nil, if_neg, updL] <;> done)))⟩
  have a00n : ¬ n0 < 1 := by omega
  by_cases a01 : n0 ≤ most
  rotate_left
  · have a01n : most < n0 := by omega
    have hd : decide ((1 ≤ n0 ∧ n0 ≤ most) ∧ (1 ≤ n1 ∧ n1 ≤ most)) = false := decide_eq_false (by omega)
    rw [hd]
    repeat' (first | refine gwS ?_ | refine GWL_start ?_ | refine GWL_step ?_ | simp only [wN, wM, Nat.reduceAdd, Nat.reduceMul] | ((first | refine gwR [] ?_ | refine gwD [] ?_); intro Q hQ hP; simp [hC, hY, a00, a00n, a01, a01n]; (first | refine hQ _ _ _ _ (by kernel_rfl) ?_ | refine hP _ _ (by kernel_rfl) fun _ => ?_); clear hQ hP Q) | refine gwB ?_ | refine gwT ?_ | refine gwK ?_ | refine gwE ?_ | refine gwG ?_ | refine gwL ?_ | simp only [blockG_exit] | (refine gwC ?_ ?_ <;> (intro hb; first | (cases hb; done) | skip)))
    refine ⟨.inr rfl, by simp [Tryd.results22], keep_of G0F (by simp) (by (intro k hk; first | rfl | (simp (disch := omega) only [addB, List.mem_cons, List.not_mem_nil, or_false, upd_other, hpL_cons, hpL_nil, if_neg, updL] <;> done)))⟩
  have a01n : ¬ most < n0 := by omega
  by_cases a10 : 1 ≤ n1
  rotate_left
  · have a10n : n1 < 1 := by omega
    have hd : decide ((1 ≤ n0 ∧ n0 ≤ most) ∧ (1 ≤ n1 ∧ n1 ≤ most)) = false := decide_eq_false (by omega)
    rw [hd]
    repeat' (first | refine gwS ?_ | refine GWL_start ?_ | refine GWL_step ?_ | simp only [wN, wM, Nat.reduceAdd, Nat.reduceMul] | ((first | refine gwR [] ?_ | refine gwD [] ?_); intro Q hQ hP; simp [hC, hY, a00, a00n, a01, a01n, a10, a10n]; (first | refine hQ _ _ _ _ (by kernel_rfl) ?_ | refine hP _ _ (by kernel_rfl) fun _ => ?_); clear hQ hP Q) | refine gwB ?_ | refine gwT ?_ | refine gwK ?_ | refine gwE ?_ | refine gwG ?_ | refine gwL ?_ | simp only [blockG_exit] | (refine gwC ?_ ?_ <;> (intro hb; first | (cases hb; done) | skip)))
    refine ⟨.inr rfl, by simp [Tryd.results22], keep_of G0F (by simp) (by (intro k hk; first | rfl | (simp (disch := omega) only [addB, List.mem_cons, List.not_mem_nil, or_false, upd_other, hpL_cons, hpL_nil, if_neg, updL] <;> done)))⟩
  have a10n : ¬ n1 < 1 := by omega
  by_cases a11 : n1 ≤ most
  rotate_left
  · have a11n : most < n1 := by omega
    have hd : decide ((1 ≤ n0 ∧ n0 ≤ most) ∧ (1 ≤ n1 ∧ n1 ≤ most)) = false := decide_eq_false (by omega)
    rw [hd]
    repeat' (first | refine gwS ?_ | refine GWL_start ?_ | refine GWL_step ?_ | simp only [wN, wM, Nat.reduceAdd, Nat.reduceMul] | ((first | refine gwR [] ?_ | refine gwD [] ?_); intro Q hQ hP; simp [hC, hY, a00, a00n, a01, a01n, a10, a10n, a11, a11n]; (first | refine hQ _ _ _ _ (by kernel_rfl) ?_ | refine hP _ _ (by kernel_rfl) fun _ => ?_); clear hQ hP Q) | refine gwB ?_ | refine gwT ?_ | refine gwK ?_ | refine gwE ?_ | refine gwG ?_ | refine gwL ?_ | simp only [blockG_exit] | (refine gwC ?_ ?_ <;> (intro hb; first | (cases hb; done) | skip)))
    refine ⟨.inr rfl, by simp [Tryd.results22], keep_of G0F (by simp) (by (intro k hk; first | rfl | (simp (disch := omega) only [addB, List.mem_cons, List.not_mem_nil, or_false, upd_other, hpL_cons, hpL_nil, if_neg, updL] <;> done)))⟩
  have a11n : ¬ most < n1 := by omega
  have hd : decide ((1 ≤ n0 ∧ n0 ≤ most) ∧ (1 ≤ n1 ∧ n1 ≤ most)) = true := decide_eq_true (by omega)
  rw [hd]
  repeat' (first | refine gwS ?_ | refine GWL_start ?_ | refine GWL_step ?_ | simp only [wN, wM, Nat.reduceAdd, Nat.reduceMul] | ((first | refine gwR [] ?_ | refine gwD [] ?_); intro Q hQ hP; simp [hC, hY, a00, a00n, a01, a01n, a10, a10n, a11, a11n]; (first | refine hQ _ _ _ _ (by kernel_rfl) ?_ | refine hP _ _ (by kernel_rfl) fun _ => ?_); clear hQ hP Q) | refine gwB ?_ | refine gwT ?_ | refine gwK ?_ | refine gwE ?_ | refine gwG ?_ | refine gwL ?_ | simp only [blockG_exit] | (refine gwC ?_ ?_ <;> (intro hb; first | (cases hb; done) | skip)))
  refine ⟨.inr rfl, by simp [Tryd.results22], keep_of G0F (by simp) (by (intro k hk; first | rfl | (simp (disch := omega) only [addB, List.mem_cons, List.not_mem_nil, or_false, upd_other, hpL_cons, hpL_nil, if_neg, updL] <;> done)))⟩
theorem ewhole_ret (r a n : Int) (hi : i64 n) (w1 : wr (r * r)) (w2 : wr (r * r * n)) (w3 : wr (a * a)) (hr : wr r) (ha : wr a) : Ret Tryd.prog G0 27 #[wd r, wd a, .int .i64 n] (.bool (decide (r * r * n = a * a))) := by
  refine ret_of G0F Tryd.func27 rfl Tryd.call27 rfl (by simp) (by simp [Tryd.ntmps27]) ?_
  intro C hC hC0 hY
  have s1 := wr_sz w1
  have s2 := wr_sz w2
  have s3 := wr_sz w3
  have s4 := wr_sz hr
  have s5 := wr_sz ha
  have s6 := wr_sz (i64_wr hi)
  repeat' (first | refine gwS ?_ | simp only [wN, wM, Nat.reduceAdd, Nat.reduceMul] | ((first | refine gwR [] ?_ | refine gwD [] ?_); intro Q hQ hP; simp [hC, hY, hi, s1, s2, s3, s4, s5, s6]; (first | refine hQ _ _ _ _ (by kernel_rfl) ?_ | refine hP _ _ (by kernel_rfl) fun _ => ?_); clear hQ hP Q) | refine gwB ?_ | refine gwT ?_ | refine gwK ?_ | refine gwE ?_ | refine gwG ?_ | refine gwL ?_ | simp only [blockG_exit] | (refine gwC ?_ ?_ <;> (intro hb; first | (cases hb; done) | skip)))
  refine ⟨.inr trivial, ?_⟩
  simp [Tryd.results27]
  rw [weq, s2, s3]
@[simp] theorem ewhole (r a n : Int) (hi : i64 n) (w1 : wr (r * r)) (w2 : wr (r * r * n)) (w3 : wr (a * a)) (hr : wr r) (ha : wr a) (K : Value → Prop) : callK Tryd.prog G0 27 #[Value.agg #[.int .u64 (wi (r) 0), .int .u64 (wi (r) 1), .int .u64 (wi (r) 2), .int .u64 (wi (r) 3)], Value.agg #[.int .u64 (wi (a) 0), .int .u64 (wi (a) 1), .int .u64 (wi (a) 2), .int .u64 (wi (a) 3)], .int .i64 n] K ↔ K (.bool (decide (r * r * n = a * a))) := callK_iff G0W (by kernel_rfl) (ewhole_ret r a n hi w1 w2 w3 hr ha)
set_option maxHeartbeats 1000000 in
theorem eTimes3 (a0 a1 a2 : Int) (hi : i64 a0 ∧ i64 a1 ∧ i64 a2) (hw : wr (a0) ∧ wr (a0 * a1) ∧ wr (a0 * a1 * a2)) : Fun Tryd.prog G0 8 #[.slice (some ⟨100, 0, none⟩) 3 3] (hpL G0 [(100, ⟨#[.int .i64 a0, .int .i64 a1, .int .i64 a2], .ty 3⟩)]) (keys [(100, (⟨#[.int .i64 a0, .int .i64 a1, .int .i64 a2], .ty 3⟩ : Blk))]) (.ret (wd (a0 * a1 * a2)) []) := by
  refine fun_ofL (B := 200) G0F Tryd.func8 rfl Tryd.call8 ⟨by simp, by simp [keys], by simp [ids_lit, idsF, ids0]⟩ ?_ (by simp) (by simp) (by simp) (by simp [Tryd.ntmps8]) (by omega) ?_
  · simp [idsV, idsA, idsF, ids0, keys]
  intro C hC hC0 hY
  obtain ⟨i0, i1, i2⟩ := hi
  obtain ⟨w0, w1, w2⟩ := hw
  have s0 := wr_sz w0
  have s1 := wr_sz w1
  have s2 := wr_sz w2
  have t1 := wr_sz (i64_wr i1)
  have t2 := wr_sz (i64_wr i2)
  have j1 := i64_1
  have e1 : sz 1 = 1 := by decide
  repeat' (first | refine gwS ?_ | refine GWL_start ?_ | refine GWL_step ?_ | simp only [wN, wM, Nat.reduceAdd, Nat.reduceMul] | ((first | refine gwR [] ?_ | refine gwD [] ?_); intro Q hQ hP; simp [hC, hY, j1, e1, Int.one_mul, i0, i1, i2, s0, s1, s2, t1, t2]; (first | refine hQ _ _ _ _ (by kernel_rfl) ?_ | refine hP _ _ (by kernel_rfl) fun _ => ?_); clear hQ hP Q) | refine gwB ?_ | refine gwT ?_ | refine gwK ?_ | refine gwE ?_ | refine gwG ?_ | refine gwL ?_ | simp only [blockG_exit] | (refine gwC ?_ ?_ <;> (intro hb; first | (cases hb; done) | skip)))
  refine ⟨.inr rfl, by simp [Tryd.results8], keep_of G0F (by simp) (by (intro k hk; first | rfl | (simp (disch := omega) only [addB, List.mem_cons, List.not_mem_nil, or_false, upd_other, hpL_cons, hpL_nil, if_neg, updL] <;> done)))⟩
set_option maxHeartbeats 1000000 in
theorem eTimes4 (a0 a1 a2 a3 : Int) (hi : i64 a0 ∧ i64 a1 ∧ i64 a2 ∧ i64 a3) (hw : wr (a0) ∧ wr (a0 * a1) ∧ wr (a0 * a1 * a2) ∧ wr (a0 * a1 * a2 * a3)) : Fun Tryd.prog G0 8 #[.slice (some ⟨100, 0, none⟩) 4 4] (hpL G0 [(100, ⟨#[.int .i64 a0, .int .i64 a1, .int .i64 a2, .int .i64 a3], .ty 3⟩)]) (keys [(100, (⟨#[.int .i64 a0, .int .i64 a1, .int .i64 a2, .int .i64 a3], .ty 3⟩ : Blk))]) (.ret (wd (a0 * a1 * a2 * a3)) []) := by
  refine fun_ofL (B := 200) G0F Tryd.func8 rfl Tryd.call8 ⟨by simp, by simp [keys], by simp [ids_lit, idsF, ids0]⟩ ?_ (by simp) (by simp) (by simp) (by simp [Tryd.ntmps8]) (by omega) ?_
  · simp [idsV, idsA, idsF, ids0, keys]
  intro C hC hC0 hY
  obtain ⟨i0, i1, i2, i3⟩ := hi
  obtain ⟨w0, w1, w2, w3⟩ := hw
  have s0 := wr_sz w0
  have s1 := wr_sz w1
  have s2 := wr_sz w2
  have s3 := wr_sz w3
  have t1 := wr_sz (i64_wr i1)
  have t2 := wr_sz (i64_wr i2)
  have t3 := wr_sz (i64_wr i3)
  have j1 := i64_1
  have e1 : sz 1 = 1 := by decide
  repeat' (first | refine gwS ?_ | refine GWL_start ?_ | refine GWL_step ?_ | simp only [wN, wM, Nat.reduceAdd, Nat.reduceMul] | ((first | refine gwR [] ?_ | refine gwD [] ?_); intro Q hQ hP; simp [hC, hY, j1, e1, Int.one_mul, i0, i1, i2, i3, s0, s1, s2, s3, t1, t2, t3]; (first | refine hQ _ _ _ _ (by kernel_rfl) ?_ | refine hP _ _ (by kernel_rfl) fun _ => ?_); clear hQ hP Q) | refine gwB ?_ | refine gwT ?_ | refine gwK ?_ | refine gwE ?_ | refine gwG ?_ | refine gwL ?_ | simp only [blockG_exit] | (refine gwC ?_ ?_ <;> (intro hb; first | (cases hb; done) | skip)))
  refine ⟨.inr rfl, by simp [Tryd.results8], keep_of G0F (by simp) (by (intro k hk; first | rfl | (simp (disch := omega) only [addB, List.mem_cons, List.not_mem_nil, or_false, upd_other, hpL_cons, hpL_nil, if_neg, updL] <;> done)))⟩
theorem ewi1_t {most n0 : Int} (h : (1 ≤ n0 ∧ n0 ≤ most)) : Fun Tryd.prog G0 22 #[.int .i64 most, .slice (some ⟨100, 0, none⟩) 1 1] (hpL G0 [(100, ⟨#[.int .i64 n0], .ty 3⟩)]) [100] (.ret (.bool true) []) := by
  have e := ewithin1 most n0
  rw [decide_eq_true h] at e
  exact e
theorem ewi1_f {most n0 : Int} (h : ¬ ((1 ≤ n0 ∧ n0 ≤ most))) : Fun Tryd.prog G0 22 #[.int .i64 most, .slice (some ⟨100, 0, none⟩) 1 1] (hpL G0 [(100, ⟨#[.int .i64 n0], .ty 3⟩)]) [100] (.ret (.bool false) []) := by
  have e := ewithin1 most n0
  rw [decide_eq_false h] at e
  exact e
theorem ewi2_t {most n0 n1 : Int} (h : (1 ≤ n0 ∧ n0 ≤ most) ∧ (1 ≤ n1 ∧ n1 ≤ most)) : Fun Tryd.prog G0 22 #[.int .i64 most, .slice (some ⟨100, 0, none⟩) 2 2] (hpL G0 [(100, ⟨#[.int .i64 n0, .int .i64 n1], .ty 3⟩)]) [100] (.ret (.bool true) []) := by
  have e := ewithin2 most n0 n1
  rw [decide_eq_true h] at e
  exact e
theorem ewi2_f {most n0 n1 : Int} (h : ¬ ((1 ≤ n0 ∧ n0 ≤ most) ∧ (1 ≤ n1 ∧ n1 ≤ most))) : Fun Tryd.prog G0 22 #[.int .i64 most, .slice (some ⟨100, 0, none⟩) 2 2] (hpL G0 [(100, ⟨#[.int .i64 n0, .int .i64 n1], .ty 3⟩)]) [100] (.ret (.bool false) []) := by
  have e := ewithin2 most n0 n1
  rw [decide_eq_false h] at e
  exact e
set_option maxHeartbeats 1000000 in
theorem epair_ok {g m w q : Int} (h : EIn g m w q) (hq : 0 < q) : Ret Tryd.prog G0 7 #[.int .i64 g, .int .i64 m, .int .i64 w, .int .i64 q] (.tuple #[.int .i64 (enLo g m w q), .int .i64 (enHi g m w q), .int .i64 0]) := by
  refine ret_of G0F Tryd.func7 rfl Tryd.call7 (by simp) (by simp) (by simp [Tryd.ntmps7]) ?_
  intro C hC hC0 hY
  have k1 := h.gm
  have k2 := h.gmw
  have k3 := h.a
  have k4 := h.aa
  have k5 := h.lo hq
  have k6 := h.hi hq
  have k7 := (h.holds hq).1
  have k8 := lolo_bd k5.1 k5.2 h.q0 h.q1
  have k9 := en_hi_eq g m w q
  have hw1 : (1 ≤ g ∧ g ≤ 1048576) := ⟨h.g0, h.g1⟩
  have hw2 : (1 ≤ m ∧ m ≤ 1024) ∧ (1 ≤ w ∧ w ≤ 1024) := ⟨⟨h.m0, h.m1⟩, h.w0, h.w1⟩
  have hq0 : ¬ q < 0 := by omega
  have hq1 : ¬ 13194139533312 < q := by have := h.q1; omega
  have iq : i64 q := ⟨by omega, by omega⟩
  have eA : enA g m w = g * m * w * 1048576 := rfl
  have eL : enLo g m w q = isq (enA g m w * enA g m w / q) := rfl
  have iA : i64 (enA g m w) := ⟨by omega, by omega⟩
  have iL : i64 (enLo g m w q) := ⟨by omega, by omega⟩
  have wA := i64_wr iA
  have wL := i64_wr iL
  have wq := i64_wr iq
  have wAA : wr (enA g m w * enA g m w) := ⟨Int.le_trans (by decide) k4.1, Int.lt_of_le_of_lt k4.2 (by decide)⟩
  have w2 : wr (enLo g m w q * enLo g m w q) := ⟨Int.le_trans (by decide) k8.1, Int.lt_of_le_of_lt k8.2.1 (by decide)⟩
  have w3 : wr (enLo g m w q * enLo g m w q * q) := ⟨Int.le_trans (by decide) k8.2.2.1, Int.lt_of_le_of_lt k8.2.2.2 (by decide)⟩
  have b1 : Int.bmod (g * m) 18446744073709551616 = g * m := bm (by omega) (by omega)
  have b2 : Int.bmod (g * m * w) 18446744073709551616 = g * m * w := bm (by omega) (by omega)
  have b3 : Int.bmod (g * m * w * 1048576) 18446744073709551616 = g * m * w * 1048576 := bm (by omega) (by omega)
  have b4 : Int.bmod (enLo g m w q + 1) 18446744073709551616 = enLo g m w q + 1 := bm (by omega) (by omega)
  have s1 := wr_sz wA
  have s2 := wr_sz wAA
  have s3 := wr_sz wL
  rw [k9]
  generalize enLo g m w q = R at *
  simp only [eA] at iA wA wAA k4 s1 s2 eL k7 k9 ⊢
  have hR := eL.symm
  clear eL eA
  by_cases c : R * R * q = g * m * w * 1048576 * (g * m * w * 1048576)
  · rw [if_pos c]
    repeat' (first | refine gwS ?_ | simp only [wN, wM, Nat.reduceAdd, Nat.reduceMul] | ((first | refine gwR [22] ?_ | refine gwD [22] ?_); intro Q hQ hP; simp [hC, hY, hq0, hq1, b1, b2, b3, b4, iq, iA, iL, wA, wL, wq, wAA, w2, w3, s1, s2, s3, hR, k4.1, hq, c]; (repeat ((first | (refine heapK_slA (ewi1_t hw1) (by simp) rfl (by simp) (by simp) ?_) | (refine heapK_slA (ewi2_t hw2) (by simp) rfl (by simp) (by simp) ?_)); try simp [hC, hY, hq0, hq1, b1, b2, b3, b4, iq, iA, iL, wA, wL, wq, wAA, w2, w3, s1, s2, s3, hR, k4.1, hq, c])); (first | refine hQ _ _ _ _ (by kernel_rfl) ?_ | refine hP _ _ (by kernel_rfl) fun _ => ?_); clear hQ hP Q) | refine gwB ?_ | refine gwT ?_ | refine gwK ?_ | refine gwE ?_ | refine gwG ?_ | refine gwL ?_ | simp only [blockG_exit] | (refine gwC ?_ ?_ <;> (intro hb; first | (cases hb; done) | skip)))
    refine GW_scope' 0 (fun _ _ => False) rfl (fun _ _ h => h.elim) ?_
    intro _
    repeat' (first | refine gwS ?_ | simp only [wN, wM, Nat.reduceAdd, Nat.reduceMul] | ((first | refine gwR [22] ?_ | refine gwD [22] ?_); intro Q hQ hP; simp [hC, hY, hq0, hq1, b1, b2, b3, b4, iq, iA, iL, wA, wL, wq, wAA, w2, w3, s1, s2, s3, hR, k4.1, hq, c]; (repeat ((first | (refine heapK_slA (ewi1_t hw1) (by simp) rfl (by simp) (by simp) ?_) | (refine heapK_slA (ewi2_t hw2) (by simp) rfl (by simp) (by simp) ?_)); try simp [hC, hY, hq0, hq1, b1, b2, b3, b4, iq, iA, iL, wA, wL, wq, wAA, w2, w3, s1, s2, s3, hR, k4.1, hq, c])); (first | refine hQ _ _ _ _ (by kernel_rfl) ?_ | refine hP _ _ (by kernel_rfl) fun _ => ?_); clear hQ hP Q) | refine gwB ?_ | refine gwT ?_ | refine gwK ?_ | refine gwE ?_ | refine gwG ?_ | refine gwL ?_ | simp only [blockG_exit] | (refine gwC ?_ ?_ <;> (intro hb; first | (cases hb; done) | skip)))
    refine ⟨.inr trivial, ?_⟩
    simp [Tryd.results7]
  · rw [if_neg c]
    repeat' (first | refine gwS ?_ | simp only [wN, wM, Nat.reduceAdd, Nat.reduceMul] | ((first | refine gwR [22] ?_ | refine gwD [22] ?_); intro Q hQ hP; simp [hC, hY, hq0, hq1, b1, b2, b3, b4, iq, iA, iL, wA, wL, wq, wAA, w2, w3, s1, s2, s3, hR, k4.1, hq, c]; (repeat ((first | (refine heapK_slA (ewi1_t hw1) (by simp) rfl (by simp) (by simp) ?_) | (refine heapK_slA (ewi2_t hw2) (by simp) rfl (by simp) (by simp) ?_)); try simp [hC, hY, hq0, hq1, b1, b2, b3, b4, iq, iA, iL, wA, wL, wq, wAA, w2, w3, s1, s2, s3, hR, k4.1, hq, c])); (first | refine hQ _ _ _ _ (by kernel_rfl) ?_ | refine hP _ _ (by kernel_rfl) fun _ => ?_); clear hQ hP Q) | refine gwB ?_ | refine gwT ?_ | refine gwK ?_ | refine gwE ?_ | refine gwG ?_ | refine gwL ?_ | simp only [blockG_exit] | (refine gwC ?_ ?_ <;> (intro hb; first | (cases hb; done) | skip)))
    refine GW_scope' 0 (fun _ _ => False) rfl (fun _ _ h => h.elim) ?_
    intro _
    repeat' (first | refine gwS ?_ | simp only [wN, wM, Nat.reduceAdd, Nat.reduceMul] | ((first | refine gwR [22] ?_ | refine gwD [22] ?_); intro Q hQ hP; simp [hC, hY, hq0, hq1, b1, b2, b3, b4, iq, iA, iL, wA, wL, wq, wAA, w2, w3, s1, s2, s3, hR, k4.1, hq, c]; (repeat ((first | (refine heapK_slA (ewi1_t hw1) (by simp) rfl (by simp) (by simp) ?_) | (refine heapK_slA (ewi2_t hw2) (by simp) rfl (by simp) (by simp) ?_)); try simp [hC, hY, hq0, hq1, b1, b2, b3, b4, iq, iA, iL, wA, wL, wq, wAA, w2, w3, s1, s2, s3, hR, k4.1, hq, c])); (first | refine hQ _ _ _ _ (by kernel_rfl) ?_ | refine hP _ _ (by kernel_rfl) fun _ => ?_); clear hQ hP Q) | refine gwB ?_ | refine gwT ?_ | refine gwK ?_ | refine gwE ?_ | refine gwG ?_ | refine gwL ?_ | simp only [blockG_exit] | (refine gwC ?_ ?_ <;> (intro hb; first | (cases hb; done) | skip)))
    refine ⟨.inr trivial, ?_⟩
    simp [Tryd.results7, b4]
@[simp] theorem rOf_ze (a : Int) (K : Value → Prop) : callK Tryd.prog G0 25 #[Value.agg #[.int .u64 (wi (a) 0), .int .u64 (wi (a) 1), .int .u64 (wi (a) 2), .int .u64 (wi (a) 3)], .agg #[.int .u64 0, .int .u64 0, .int .u64 0, .int .u64 0]] K ↔ K (.tuple #[wd 0, .int .i64 30]) := by
  have := rOf_z a 0 rfl K
  simpa [wi_zero] using this
set_option maxHeartbeats 1000000 in
theorem epair_b1 {g m w q : Int} (hw1 : ¬ (1 ≤ g ∧ g ≤ 1048576)) : Ret Tryd.prog G0 7 #[.int .i64 g, .int .i64 m, .int .i64 w, .int .i64 q] (.tuple #[.int .i64 0, .int .i64 0, .int .i64 2]) := by
  refine ret_of G0F Tryd.func7 rfl Tryd.call7 (by simp) (by simp) (by simp [Tryd.ntmps7]) ?_
  intro C hC hC0 hY
  repeat' (first | refine gwS ?_ | simp only [wN, wM, Nat.reduceAdd, Nat.reduceMul] | ((first | refine gwR [22] ?_ | refine gwD [22] ?_); intro Q hQ hP; simp [hC, hY]; (repeat ((first | (refine heapK_slA (ewi1_f hw1) (by simp) rfl (by simp) (by simp) ?_)); try simp [hC, hY])); (first | refine hQ _ _ _ _ (by kernel_rfl) ?_ | refine hP _ _ (by kernel_rfl) fun _ => ?_); clear hQ hP Q) | refine gwB ?_ | refine gwT ?_ | refine gwK ?_ | refine gwE ?_ | refine gwG ?_ | refine gwL ?_ | simp only [blockG_exit] | (refine gwC ?_ ?_ <;> (intro hb; first | (cases hb; done) | skip)))
  refine GW_scope' 0 (fun m s => s = ⟨tsL [(10, .int .i64 2)], hpL G0 [], 1000, 0⟩) rfl ?_ ?_
  · rintro m _ rfl
    repeat' (first | refine gwS ?_ | simp only [wN, wM, Nat.reduceAdd, Nat.reduceMul] | ((first | refine gwR [] ?_ | refine gwD [] ?_); intro Q hQ hP; simp [hC, hY]; (first | refine hQ _ _ _ _ (by kernel_rfl) ?_ | refine hP _ _ (by kernel_rfl) fun _ => ?_); clear hQ hP Q) | refine gwB ?_ | refine gwT ?_ | refine gwK ?_ | refine gwE ?_ | refine gwG ?_ | refine gwL ?_ | simp only [blockG_exit] | (refine gwC ?_ ?_ <;> (intro hb; first | (cases hb; done) | skip)))
    refine ⟨.inr trivial, ?_⟩
    simp [Tryd.results7]
  · intro _
    repeat' (first | refine gwS ?_ | simp only [wN, wM, Nat.reduceAdd, Nat.reduceMul] | ((first | refine gwR [22] ?_ | refine gwD [22] ?_); intro Q hQ hP; simp [hC, hY]; (repeat ((first | (refine heapK_slA (ewi1_f hw1) (by simp) rfl (by simp) (by simp) ?_)); try simp [hC, hY])); (first | refine hQ _ _ _ _ (by kernel_rfl) ?_ | refine hP _ _ (by kernel_rfl) fun _ => ?_); clear hQ hP Q) | refine gwB ?_ | refine gwT ?_ | refine gwK ?_ | refine gwE ?_ | refine gwG ?_ | refine gwL ?_ | simp only [blockG_exit] | (refine gwC ?_ ?_ <;> (intro hb; first | (cases hb; done) | skip)))
    refine ⟨rfl, _, 0, weakL _ 1000 hC G0F (m0 := []) hC0 (by omega) ?_ ?_ ?_, rfl⟩
    · simp [idsV, idsA, idsF, ids0, dom]
    · simp [ids_lit, idsF, ids0, dom]
    · simp
set_option maxHeartbeats 1000000 in
theorem epair_b2 {g m w q : Int} (hw1 : (1 ≤ g ∧ g ≤ 1048576)) (hw2 : ¬ ((1 ≤ m ∧ m ≤ 1024) ∧ (1 ≤ w ∧ w ≤ 1024))) : Ret Tryd.prog G0 7 #[.int .i64 g, .int .i64 m, .int .i64 w, .int .i64 q] (.tuple #[.int .i64 0, .int .i64 0, .int .i64 2]) := by
  refine ret_of G0F Tryd.func7 rfl Tryd.call7 (by simp) (by simp) (by simp [Tryd.ntmps7]) ?_
  intro C hC hC0 hY
  repeat' (first | refine gwS ?_ | simp only [wN, wM, Nat.reduceAdd, Nat.reduceMul] | ((first | refine gwR [22] ?_ | refine gwD [22] ?_); intro Q hQ hP; simp [hC, hY]; (repeat ((first | (refine heapK_slA (ewi1_t hw1) (by simp) rfl (by simp) (by simp) ?_) | (refine heapK_slA (ewi2_f hw2) (by simp) rfl (by simp) (by simp) ?_)); try simp [hC, hY])); (first | refine hQ _ _ _ _ (by kernel_rfl) ?_ | refine hP _ _ (by kernel_rfl) fun _ => ?_); clear hQ hP Q) | refine gwB ?_ | refine gwT ?_ | refine gwK ?_ | refine gwE ?_ | refine gwG ?_ | refine gwL ?_ | simp only [blockG_exit] | (refine gwC ?_ ?_ <;> (intro hb; first | (cases hb; done) | skip)))
  refine GW_scope' 0 (fun m s => s = ⟨tsL [(10, .int .i64 2)], hpL G0 [], 1000, 0⟩) rfl ?_ ?_
  · rintro m _ rfl
    repeat' (first | refine gwS ?_ | simp only [wN, wM, Nat.reduceAdd, Nat.reduceMul] | ((first | refine gwR [] ?_ | refine gwD [] ?_); intro Q hQ hP; simp [hC, hY]; (first | refine hQ _ _ _ _ (by kernel_rfl) ?_ | refine hP _ _ (by kernel_rfl) fun _ => ?_); clear hQ hP Q) | refine gwB ?_ | refine gwT ?_ | refine gwK ?_ | refine gwE ?_ | refine gwG ?_ | refine gwL ?_ | simp only [blockG_exit] | (refine gwC ?_ ?_ <;> (intro hb; first | (cases hb; done) | skip)))
    refine ⟨.inr trivial, ?_⟩
    simp [Tryd.results7]
  · intro _
    repeat' (first | refine gwS ?_ | simp only [wN, wM, Nat.reduceAdd, Nat.reduceMul] | ((first | refine gwR [22] ?_ | refine gwD [22] ?_); intro Q hQ hP; simp [hC, hY]; (repeat ((first | (refine heapK_slA (ewi1_t hw1) (by simp) rfl (by simp) (by simp) ?_) | (refine heapK_slA (ewi2_f hw2) (by simp) rfl (by simp) (by simp) ?_)); try simp [hC, hY])); (first | refine hQ _ _ _ _ (by kernel_rfl) ?_ | refine hP _ _ (by kernel_rfl) fun _ => ?_); clear hQ hP Q) | refine gwB ?_ | refine gwT ?_ | refine gwK ?_ | refine gwE ?_ | refine gwG ?_ | refine gwL ?_ | simp only [blockG_exit] | (refine gwC ?_ ?_ <;> (intro hb; first | (cases hb; done) | skip)))
    refine ⟨rfl, _, 0, weakL _ 1000 hC G0F (m0 := []) hC0 (by omega) ?_ ?_ ?_, rfl⟩
    · simp [idsV, idsA, idsF, ids0, dom]
    · simp [ids_lit, idsF, ids0, dom]
    · simp
set_option maxHeartbeats 1000000 in
theorem epair_b3 {g m w q : Int} (hw1 : (1 ≤ g ∧ g ≤ 1048576)) (hw2 : (1 ≤ m ∧ m ≤ 1024) ∧ (1 ≤ w ∧ w ≤ 1024)) (h3 : q < 0) : Ret Tryd.prog G0 7 #[.int .i64 g, .int .i64 m, .int .i64 w, .int .i64 q] (.tuple #[.int .i64 0, .int .i64 0, .int .i64 2]) := by
  refine ret_of G0F Tryd.func7 rfl Tryd.call7 (by simp) (by simp) (by simp [Tryd.ntmps7]) ?_
  intro C hC hC0 hY
  repeat' (first | refine gwS ?_ | simp only [wN, wM, Nat.reduceAdd, Nat.reduceMul] | ((first | refine gwR [22] ?_ | refine gwD [22] ?_); intro Q hQ hP; simp [hC, hY, h3]; (repeat ((first | (refine heapK_slA (ewi1_t hw1) (by simp) rfl (by simp) (by simp) ?_) | (refine heapK_slA (ewi2_t hw2) (by simp) rfl (by simp) (by simp) ?_)); try simp [hC, hY, h3])); (first | refine hQ _ _ _ _ (by kernel_rfl) ?_ | refine hP _ _ (by kernel_rfl) fun _ => ?_); clear hQ hP Q) | refine gwB ?_ | refine gwT ?_ | refine gwK ?_ | refine gwE ?_ | refine gwG ?_ | refine gwL ?_ | simp only [blockG_exit] | (refine gwC ?_ ?_ <;> (intro hb; first | (cases hb; done) | skip)))
  refine GW_scope' 0 (fun m s => s = ⟨tsL [(10, .int .i64 2)], hpL G0 [], 1000, 0⟩) rfl ?_ ?_
  · rintro m _ rfl
    repeat' (first | refine gwS ?_ | simp only [wN, wM, Nat.reduceAdd, Nat.reduceMul] | ((first | refine gwR [] ?_ | refine gwD [] ?_); intro Q hQ hP; simp [hC, hY]; (first | refine hQ _ _ _ _ (by kernel_rfl) ?_ | refine hP _ _ (by kernel_rfl) fun _ => ?_); clear hQ hP Q) | refine gwB ?_ | refine gwT ?_ | refine gwK ?_ | refine gwE ?_ | refine gwG ?_ | refine gwL ?_ | simp only [blockG_exit] | (refine gwC ?_ ?_ <;> (intro hb; first | (cases hb; done) | skip)))
    refine ⟨.inr trivial, ?_⟩
    simp [Tryd.results7]
  · intro _
    repeat' (first | refine gwS ?_ | simp only [wN, wM, Nat.reduceAdd, Nat.reduceMul] | ((first | refine gwR [22] ?_ | refine gwD [22] ?_); intro Q hQ hP; simp [hC, hY, h3]; (repeat ((first | (refine heapK_slA (ewi1_t hw1) (by simp) rfl (by simp) (by simp) ?_) | (refine heapK_slA (ewi2_t hw2) (by simp) rfl (by simp) (by simp) ?_)); try simp [hC, hY, h3])); (first | refine hQ _ _ _ _ (by kernel_rfl) ?_ | refine hP _ _ (by kernel_rfl) fun _ => ?_); clear hQ hP Q) | refine gwB ?_ | refine gwT ?_ | refine gwK ?_ | refine gwE ?_ | refine gwG ?_ | refine gwL ?_ | simp only [blockG_exit] | (refine gwC ?_ ?_ <;> (intro hb; first | (cases hb; done) | skip)))
    refine ⟨rfl, _, 0, weakL _ 1000 hC G0F (m0 := []) hC0 (by omega) ?_ ?_ ?_, rfl⟩
    · simp [idsV, idsA, idsF, ids0, dom]
    · simp [ids_lit, idsF, ids0, dom]
    · simp
set_option maxHeartbeats 1000000 in
theorem epair_b4 {g m w q : Int} (hw1 : (1 ≤ g ∧ g ≤ 1048576)) (hw2 : (1 ≤ m ∧ m ≤ 1024) ∧ (1 ≤ w ∧ w ≤ 1024)) (h3 : ¬ q < 0) (h4 : 13194139533312 < q) : Ret Tryd.prog G0 7 #[.int .i64 g, .int .i64 m, .int .i64 w, .int .i64 q] (.tuple #[.int .i64 0, .int .i64 0, .int .i64 2]) := by
  refine ret_of G0F Tryd.func7 rfl Tryd.call7 (by simp) (by simp) (by simp [Tryd.ntmps7]) ?_
  intro C hC hC0 hY
  repeat' (first | refine gwS ?_ | simp only [wN, wM, Nat.reduceAdd, Nat.reduceMul] | ((first | refine gwR [22] ?_ | refine gwD [22] ?_); intro Q hQ hP; simp [hC, hY, h3, h4]; (repeat ((first | (refine heapK_slA (ewi1_t hw1) (by simp) rfl (by simp) (by simp) ?_) | (refine heapK_slA (ewi2_t hw2) (by simp) rfl (by simp) (by simp) ?_)); try simp [hC, hY, h3, h4])); (first | refine hQ _ _ _ _ (by kernel_rfl) ?_ | refine hP _ _ (by kernel_rfl) fun _ => ?_); clear hQ hP Q) | refine gwB ?_ | refine gwT ?_ | refine gwK ?_ | refine gwE ?_ | refine gwG ?_ | refine gwL ?_ | simp only [blockG_exit] | (refine gwC ?_ ?_ <;> (intro hb; first | (cases hb; done) | skip)))
  refine GW_scope' 0 (fun m s => s = ⟨tsL [(10, .int .i64 2)], hpL G0 [], 1000, 0⟩) rfl ?_ ?_
  · rintro m _ rfl
    repeat' (first | refine gwS ?_ | simp only [wN, wM, Nat.reduceAdd, Nat.reduceMul] | ((first | refine gwR [] ?_ | refine gwD [] ?_); intro Q hQ hP; simp [hC, hY]; (first | refine hQ _ _ _ _ (by kernel_rfl) ?_ | refine hP _ _ (by kernel_rfl) fun _ => ?_); clear hQ hP Q) | refine gwB ?_ | refine gwT ?_ | refine gwK ?_ | refine gwE ?_ | refine gwG ?_ | refine gwL ?_ | simp only [blockG_exit] | (refine gwC ?_ ?_ <;> (intro hb; first | (cases hb; done) | skip)))
    refine ⟨.inr trivial, ?_⟩
    simp [Tryd.results7]
  · intro _
    repeat' (first | refine gwS ?_ | simp only [wN, wM, Nat.reduceAdd, Nat.reduceMul] | ((first | refine gwR [22] ?_ | refine gwD [22] ?_); intro Q hQ hP; simp [hC, hY, h3, h4]; (repeat ((first | (refine heapK_slA (ewi1_t hw1) (by simp) rfl (by simp) (by simp) ?_) | (refine heapK_slA (ewi2_t hw2) (by simp) rfl (by simp) (by simp) ?_)); try simp [hC, hY, h3, h4])); (first | refine hQ _ _ _ _ (by kernel_rfl) ?_ | refine hP _ _ (by kernel_rfl) fun _ => ?_); clear hQ hP Q) | refine gwB ?_ | refine gwT ?_ | refine gwK ?_ | refine gwE ?_ | refine gwG ?_ | refine gwL ?_ | simp only [blockG_exit] | (refine gwC ?_ ?_ <;> (intro hb; first | (cases hb; done) | skip)))
    refine ⟨rfl, _, 0, weakL _ 1000 hC G0F (m0 := []) hC0 (by omega) ?_ ?_ ?_, rfl⟩
    · simp [idsV, idsA, idsF, ids0, dom]
    · simp [ids_lit, idsF, ids0, dom]
    · simp
set_option maxHeartbeats 1000000 in
theorem epair_z {g m w q : Int} (h : EIn g m w q) (hq : q = 0) : Ret Tryd.prog G0 7 #[.int .i64 g, .int .i64 m, .int .i64 w, .int .i64 q] (.tuple #[.int .i64 0, .int .i64 0, .int .i64 30]) := by
  refine ret_of G0F Tryd.func7 rfl Tryd.call7 (by simp) (by simp) (by simp [Tryd.ntmps7]) ?_
  intro C hC hC0 hY
  subst hq
  have k1 := h.gm
  have k2 := h.gmw
  have hw1 : (1 ≤ g ∧ g ≤ 1048576) := ⟨h.g0, h.g1⟩
  have hw2 : (1 ≤ m ∧ m ≤ 1024) ∧ (1 ≤ w ∧ w ≤ 1024) := ⟨⟨h.m0, h.m1⟩, h.w0, h.w1⟩
  have hq0 : ¬ (0 : Int) < 0 := by omega
  have hq1 : ¬ (13194139533312 : Int) < 0 := by omega
  have i0 : i64 0 := by decide
  have z0 : (0 : Int) = 0 := rfl
  have b1 : Int.bmod (g * m) 18446744073709551616 = g * m := bm (by omega) (by omega)
  have b2 : Int.bmod (g * m * w) 18446744073709551616 = g * m * w := bm (by omega) (by omega)
  have b3 : Int.bmod (g * m * w * 1048576) 18446744073709551616 = g * m * w * 1048576 := bm (by omega) (by omega)
  have iA : i64 (g * m * w * 1048576) := ⟨by omega, by omega⟩
  have s1 := wr_sz (i64_wr iA)
  have k4 := h.aa
  have wAA : wr (g * m * w * 1048576 * (g * m * w * 1048576)) := ⟨Int.le_trans (by decide) k4.1, Int.lt_of_le_of_lt k4.2 (by decide)⟩
  have s2 := wr_sz wAA
  repeat' (first | refine gwS ?_ | simp only [wN, wM, Nat.reduceAdd, Nat.reduceMul] | ((first | refine gwR [22] ?_ | refine gwD [22] ?_); intro Q hQ hP; simp [hC, hY, hq0, hq1, b1, b2, b3, i0, z0, iA, s1, s2]; (repeat ((first | (refine heapK_slA (ewi1_t hw1) (by simp) rfl (by simp) (by simp) ?_) | (refine heapK_slA (ewi2_t hw2) (by simp) rfl (by simp) (by simp) ?_)); try simp [hC, hY, hq0, hq1, b1, b2, b3, i0, z0, iA, s1, s2])); (first | refine hQ _ _ _ _ (by kernel_rfl) ?_ | refine hP _ _ (by kernel_rfl) fun _ => ?_); clear hQ hP Q) | refine gwB ?_ | refine gwT ?_ | refine gwK ?_ | refine gwE ?_ | refine gwG ?_ | refine gwL ?_ | simp only [blockG_exit] | (refine gwC ?_ ?_ <;> (intro hb; first | (cases hb; done) | skip)))
  refine GW_scope' 0 (fun m s => s = ⟨tsL [(10, .int .i64 30)], hpL G0 [], 1000, 0⟩) rfl ?_ ?_
  · rintro m _ rfl
    repeat' (first | refine gwS ?_ | simp only [wN, wM, Nat.reduceAdd, Nat.reduceMul] | ((first | refine gwR [] ?_ | refine gwD [] ?_); intro Q hQ hP; simp [hC, hY]; (first | refine hQ _ _ _ _ (by kernel_rfl) ?_ | refine hP _ _ (by kernel_rfl) fun _ => ?_); clear hQ hP Q) | refine gwB ?_ | refine gwT ?_ | refine gwK ?_ | refine gwE ?_ | refine gwG ?_ | refine gwL ?_ | simp only [blockG_exit] | (refine gwC ?_ ?_ <;> (intro hb; first | (cases hb; done) | skip)))
    refine ⟨.inr trivial, ?_⟩
    simp [Tryd.results7]
  · intro _
    repeat' (first | refine gwS ?_ | simp only [wN, wM, Nat.reduceAdd, Nat.reduceMul] | ((first | refine gwR [22] ?_ | refine gwD [22] ?_); intro Q hQ hP; simp [hC, hY, hq0, hq1, b1, b2, b3, i0, z0, iA, s1, s2]; (repeat ((first | (refine heapK_slA (ewi1_t hw1) (by simp) rfl (by simp) (by simp) ?_) | (refine heapK_slA (ewi2_t hw2) (by simp) rfl (by simp) (by simp) ?_)); try simp [hC, hY, hq0, hq1, b1, b2, b3, i0, z0, iA, s1, s2])); (first | refine hQ _ _ _ _ (by kernel_rfl) ?_ | refine hP _ _ (by kernel_rfl) fun _ => ?_); clear hQ hP Q) | refine gwB ?_ | refine gwT ?_ | refine gwK ?_ | refine gwE ?_ | refine gwG ?_ | refine gwL ?_ | simp only [blockG_exit] | (refine gwC ?_ ?_ <;> (intro hb; first | (cases hb; done) | skip)))
    refine ⟨rfl, _, 0, weakL _ 1000 hC G0F (m0 := []) hC0 (by omega) ?_ ?_ ?_, rfl⟩
    · simp [idsV, idsA, idsF, ids0, dom]
    · simp [ids_lit, idsF, ids0, dom]
    · simp
theorem epair_bad {g m w q : Int} (h : ¬ EIn g m w q) : Ret Tryd.prog G0 7 #[.int .i64 g, .int .i64 m, .int .i64 w, .int .i64 q] (.tuple #[.int .i64 0, .int .i64 0, .int .i64 2]) := by
  by_cases h1 : (1 ≤ g ∧ g ≤ 1048576)
  · by_cases h2 : (1 ≤ m ∧ m ≤ 1024) ∧ (1 ≤ w ∧ w ≤ 1024)
    · by_cases h3 : q < 0
      · exact epair_b3 h1 h2 h3
      · by_cases h4 : 13194139533312 < q
        · exact epair_b4 h1 h2 h3 h4
        · exact absurd ⟨h1.1, h1.2, h2.1.1, h2.1.2, h2.2.1, h2.2.2, by omega, by omega⟩ h
    · exact epair_b2 h1 h2
  · exact epair_b1 h1
theorem wakes22_of (h : Ret Tryd.prog G0 6 #[] (.bool true)) (K : Value → Prop) : callK Tryd.prog G0 6 #[] K ↔ K (.bool true) := callK_iff G0W (by kernel_rfl) h
theorem epair_at {g m w q a b : Int} (h : EIn g m w q) (hq : 0 < q) (e1 : enLo g m w q = a) (e2 : enHi g m w q = b) (K : Value → Prop) : callK Tryd.prog G0 7 #[.int .i64 g, .int .i64 m, .int .i64 w, .int .i64 q] K ↔ K (.tuple #[.int .i64 a, .int .i64 b, .int .i64 0]) := by
  subst e1 e2
  exact callK_iff G0W (by kernel_rfl) (epair_ok h hq)
theorem cmp_le {x y : Int} (h : x ≤ y) : cmpI x y ≤ 0 := by unfold cmpI; split <;> (try split) <;> omega
set_option maxHeartbeats 2000000 in
theorem EnergyHolds_bad (hw : Ret Tryd.prog G0 6 #[] (.bool true)) (g m w q : Int) (hb : g < 1 ∨ 1048576 < g ∨ (if w < m then w else m) < 1 ∨ 1024 < (if m < w then w else m) ∨ q < 1 ∨ 13194139533312 < q) : Ret Tryd.prog G0 3 #[.int .i64 g, .int .i64 m, .int .i64 w, .int .i64 q] (.bool true) := by
  refine ret_of G0F Tryd.func3 rfl Tryd.call3 rfl (by simp) (by simp [Tryd.ntmps3]) ?_
  intro C hC hC0 hY
  have wk := wakes22_of hw
  by_cases c0 : g < 1
  · skip
    repeat' (first | refine gwS ?_ | simp only [wN, wM, Nat.reduceAdd, Nat.reduceMul] | ((first | refine gwR [] ?_ | refine gwD [] ?_); intro Q hQ hP; simp [hC, hY, wk, c0]; (first | refine hQ _ _ _ _ (by kernel_rfl) ?_ | refine hP _ _ (by kernel_rfl) fun _ => ?_); clear hQ hP Q) | refine gwB ?_ | refine gwT ?_ | refine gwK ?_ | refine gwE ?_ | refine gwG ?_ | refine gwL ?_ | simp only [blockG_exit] | (refine gwC ?_ ?_ <;> (intro hb; first | (cases hb; done) | skip)))
    refine ⟨.inr trivial, ?_⟩
    simp [Tryd.results3]
  by_cases c1 : 1048576 < g
  · skip
    repeat' (first | refine gwS ?_ | simp only [wN, wM, Nat.reduceAdd, Nat.reduceMul] | ((first | refine gwR [] ?_ | refine gwD [] ?_); intro Q hQ hP; simp [hC, hY, wk, c0, c1]; (first | refine hQ _ _ _ _ (by kernel_rfl) ?_ | refine hP _ _ (by kernel_rfl) fun _ => ?_); clear hQ hP Q) | refine gwB ?_ | refine gwT ?_ | refine gwK ?_ | refine gwE ?_ | refine gwG ?_ | refine gwL ?_ | simp only [blockG_exit] | (refine gwC ?_ ?_ <;> (intro hb; first | (cases hb; done) | skip)))
    refine ⟨.inr trivial, ?_⟩
    simp [Tryd.results3]
  by_cases c2 : (if w < m then w else m) < 1
  · skip
    repeat' (first | refine gwS ?_ | simp only [wN, wM, Nat.reduceAdd, Nat.reduceMul] | ((first | refine gwR [] ?_ | refine gwD [] ?_); intro Q hQ hP; simp [hC, hY, wk, c0, c1, c2]; (first | refine hQ _ _ _ _ (by kernel_rfl) ?_ | refine hP _ _ (by kernel_rfl) fun _ => ?_); clear hQ hP Q) | refine gwB ?_ | refine gwT ?_ | refine gwK ?_ | refine gwE ?_ | refine gwG ?_ | refine gwL ?_ | simp only [blockG_exit] | (refine gwC ?_ ?_ <;> (intro hb; first | (cases hb; done) | skip)))
    refine ⟨.inr trivial, ?_⟩
    simp [Tryd.results3]
  by_cases c3 : 1024 < (if m < w then w else m)
  · skip
    repeat' (first | refine gwS ?_ | simp only [wN, wM, Nat.reduceAdd, Nat.reduceMul] | ((first | refine gwR [] ?_ | refine gwD [] ?_); intro Q hQ hP; simp [hC, hY, wk, c0, c1, c2, c3]; (first | refine hQ _ _ _ _ (by kernel_rfl) ?_ | refine hP _ _ (by kernel_rfl) fun _ => ?_); clear hQ hP Q) | refine gwB ?_ | refine gwT ?_ | refine gwK ?_ | refine gwE ?_ | refine gwG ?_ | refine gwL ?_ | simp only [blockG_exit] | (refine gwC ?_ ?_ <;> (intro hb; first | (cases hb; done) | skip)))
    refine ⟨.inr trivial, ?_⟩
    simp [Tryd.results3]
  by_cases c4 : q < 1
  · skip
    repeat' (first | refine gwS ?_ | simp only [wN, wM, Nat.reduceAdd, Nat.reduceMul] | ((first | refine gwR [] ?_ | refine gwD [] ?_); intro Q hQ hP; simp [hC, hY, wk, c0, c1, c2, c3, c4]; (first | refine hQ _ _ _ _ (by kernel_rfl) ?_ | refine hP _ _ (by kernel_rfl) fun _ => ?_); clear hQ hP Q) | refine gwB ?_ | refine gwT ?_ | refine gwK ?_ | refine gwE ?_ | refine gwG ?_ | refine gwL ?_ | simp only [blockG_exit] | (refine gwC ?_ ?_ <;> (intro hb; first | (cases hb; done) | skip)))
    refine ⟨.inr trivial, ?_⟩
    simp [Tryd.results3]
  have c5 : 13194139533312 < q := by simpa [c0, c1, c2, c3, c4] using hb
  repeat' (first | refine gwS ?_ | simp only [wN, wM, Nat.reduceAdd, Nat.reduceMul] | ((first | refine gwR [] ?_ | refine gwD [] ?_); intro Q hQ hP; simp [hC, hY, wk, c0, c1, c2, c3, c4, c5]; (first | refine hQ _ _ _ _ (by kernel_rfl) ?_ | refine hP _ _ (by kernel_rfl) fun _ => ?_); clear hQ hP Q) | refine gwB ?_ | refine gwT ?_ | refine gwK ?_ | refine gwE ?_ | refine gwG ?_ | refine gwL ?_ | simp only [blockG_exit] | (refine gwC ?_ ?_ <;> (intro hb; first | (cases hb; done) | skip)))
  refine ⟨.inr trivial, ?_⟩
  simp [Tryd.results3]
set_option maxHeartbeats 2000000 in
theorem EnergyFalls_bad (hw : Ret Tryd.prog G0 6 #[] (.bool true)) (g m w q e : Int) (hb : g < 1 ∨ 1048576 < g ∨ (if w < m then w else m) < 1 ∨ 1024 < (if m < w then w else m) ∨ q < 1 ∨ 3298534883328 < q ∨ e < 0 ∨ q < e) : Ret Tryd.prog G0 5 #[.int .i64 g, .int .i64 m, .int .i64 w, .int .i64 q, .int .i64 e] (.bool true) := by
  refine ret_of G0F Tryd.func5 rfl Tryd.call5 rfl (by simp) (by simp [Tryd.ntmps5]) ?_
  intro C hC hC0 hY
  have wk := wakes22_of hw
  by_cases c0 : g < 1
  · skip
    repeat' (first | refine gwS ?_ | simp only [wN, wM, Nat.reduceAdd, Nat.reduceMul] | ((first | refine gwR [] ?_ | refine gwD [] ?_); intro Q hQ hP; simp [hC, hY, wk, c0]; (first | refine hQ _ _ _ _ (by kernel_rfl) ?_ | refine hP _ _ (by kernel_rfl) fun _ => ?_); clear hQ hP Q) | refine gwB ?_ | refine gwT ?_ | refine gwK ?_ | refine gwE ?_ | refine gwG ?_ | refine gwL ?_ | simp only [blockG_exit] | (refine gwC ?_ ?_ <;> (intro hb; first | (cases hb; done) | skip)))
    refine ⟨.inr trivial, ?_⟩
    simp [Tryd.results5]
  by_cases c1 : 1048576 < g
  · skip
    repeat' (first | refine gwS ?_ | simp only [wN, wM, Nat.reduceAdd, Nat.reduceMul] | ((first | refine gwR [] ?_ | refine gwD [] ?_); intro Q hQ hP; simp [hC, hY, wk, c0, c1]; (first | refine hQ _ _ _ _ (by kernel_rfl) ?_ | refine hP _ _ (by kernel_rfl) fun _ => ?_); clear hQ hP Q) | refine gwB ?_ | refine gwT ?_ | refine gwK ?_ | refine gwE ?_ | refine gwG ?_ | refine gwL ?_ | simp only [blockG_exit] | (refine gwC ?_ ?_ <;> (intro hb; first | (cases hb; done) | skip)))
    refine ⟨.inr trivial, ?_⟩
    simp [Tryd.results5]
  by_cases c2 : (if w < m then w else m) < 1
  · skip
    repeat' (first | refine gwS ?_ | simp only [wN, wM, Nat.reduceAdd, Nat.reduceMul] | ((first | refine gwR [] ?_ | refine gwD [] ?_); intro Q hQ hP; simp [hC, hY, wk, c0, c1, c2]; (first | refine hQ _ _ _ _ (by kernel_rfl) ?_ | refine hP _ _ (by kernel_rfl) fun _ => ?_); clear hQ hP Q) | refine gwB ?_ | refine gwT ?_ | refine gwK ?_ | refine gwE ?_ | refine gwG ?_ | refine gwL ?_ | simp only [blockG_exit] | (refine gwC ?_ ?_ <;> (intro hb; first | (cases hb; done) | skip)))
    refine ⟨.inr trivial, ?_⟩
    simp [Tryd.results5]
  by_cases c3 : 1024 < (if m < w then w else m)
  · skip
    repeat' (first | refine gwS ?_ | simp only [wN, wM, Nat.reduceAdd, Nat.reduceMul] | ((first | refine gwR [] ?_ | refine gwD [] ?_); intro Q hQ hP; simp [hC, hY, wk, c0, c1, c2, c3]; (first | refine hQ _ _ _ _ (by kernel_rfl) ?_ | refine hP _ _ (by kernel_rfl) fun _ => ?_); clear hQ hP Q) | refine gwB ?_ | refine gwT ?_ | refine gwK ?_ | refine gwE ?_ | refine gwG ?_ | refine gwL ?_ | simp only [blockG_exit] | (refine gwC ?_ ?_ <;> (intro hb; first | (cases hb; done) | skip)))
    refine ⟨.inr trivial, ?_⟩
    simp [Tryd.results5]
  by_cases c4 : q < 1
  · skip
    repeat' (first | refine gwS ?_ | simp only [wN, wM, Nat.reduceAdd, Nat.reduceMul] | ((first | refine gwR [] ?_ | refine gwD [] ?_); intro Q hQ hP; simp [hC, hY, wk, c0, c1, c2, c3, c4]; (first | refine hQ _ _ _ _ (by kernel_rfl) ?_ | refine hP _ _ (by kernel_rfl) fun _ => ?_); clear hQ hP Q) | refine gwB ?_ | refine gwT ?_ | refine gwK ?_ | refine gwE ?_ | refine gwG ?_ | refine gwL ?_ | simp only [blockG_exit] | (refine gwC ?_ ?_ <;> (intro hb; first | (cases hb; done) | skip)))
    refine ⟨.inr trivial, ?_⟩
    simp [Tryd.results5]
  by_cases c5 : 3298534883328 < q
  · skip
    repeat' (first | refine gwS ?_ | simp only [wN, wM, Nat.reduceAdd, Nat.reduceMul] | ((first | refine gwR [] ?_ | refine gwD [] ?_); intro Q hQ hP; simp [hC, hY, wk, c0, c1, c2, c3, c4, c5]; (first | refine hQ _ _ _ _ (by kernel_rfl) ?_ | refine hP _ _ (by kernel_rfl) fun _ => ?_); clear hQ hP Q) | refine gwB ?_ | refine gwT ?_ | refine gwK ?_ | refine gwE ?_ | refine gwG ?_ | refine gwL ?_ | simp only [blockG_exit] | (refine gwC ?_ ?_ <;> (intro hb; first | (cases hb; done) | skip)))
    refine ⟨.inr trivial, ?_⟩
    simp [Tryd.results5]
  by_cases c6 : e < 0
  · skip
    repeat' (first | refine gwS ?_ | simp only [wN, wM, Nat.reduceAdd, Nat.reduceMul] | ((first | refine gwR [] ?_ | refine gwD [] ?_); intro Q hQ hP; simp [hC, hY, wk, c0, c1, c2, c3, c4, c5, c6]; (first | refine hQ _ _ _ _ (by kernel_rfl) ?_ | refine hP _ _ (by kernel_rfl) fun _ => ?_); clear hQ hP Q) | refine gwB ?_ | refine gwT ?_ | refine gwK ?_ | refine gwE ?_ | refine gwG ?_ | refine gwL ?_ | simp only [blockG_exit] | (refine gwC ?_ ?_ <;> (intro hb; first | (cases hb; done) | skip)))
    refine ⟨.inr trivial, ?_⟩
    simp [Tryd.results5]
  have c7 : q < e := by simpa [c0, c1, c2, c3, c4, c5, c6] using hb
  repeat' (first | refine gwS ?_ | simp only [wN, wM, Nat.reduceAdd, Nat.reduceMul] | ((first | refine gwR [] ?_ | refine gwD [] ?_); intro Q hQ hP; simp [hC, hY, wk, c0, c1, c2, c3, c4, c5, c6, c7]; (first | refine hQ _ _ _ _ (by kernel_rfl) ?_ | refine hP _ _ (by kernel_rfl) fun _ => ?_); clear hQ hP Q) | refine gwB ?_ | refine gwT ?_ | refine gwK ?_ | refine gwE ?_ | refine gwG ?_ | refine gwL ?_ | simp only [blockG_exit] | (refine gwC ?_ ?_ <;> (intro hb; first | (cases hb; done) | skip)))
  refine ⟨.inr trivial, ?_⟩
  simp [Tryd.results5]
set_option maxHeartbeats 2000000 in
theorem EnergyHolds_ok (hw : Ret Tryd.prog G0 6 #[] (.bool true)) {g m w q : Int} (h : EIn g m w q) (hq : 0 < q) : Ret Tryd.prog G0 3 #[.int .i64 g, .int .i64 m, .int .i64 w, .int .i64 q] (.bool true) := by
  refine ret_of G0F Tryd.func3 rfl Tryd.call3 rfl (by simp) (by simp [Tryd.ntmps3]) ?_
  intro C hC hC0 hY
  have wk := wakes22_of hw
  have n0 : ¬ g < 1 := by have := h.g0; omega
  have n1 : ¬ 1048576 < g := by have := h.g1; omega
  have n2 : ¬ (if w < m then w else m) < 1 := by have := h.m0; have := h.w0; split <;> omega
  have n3 : ¬ 1024 < (if m < w then w else m) := by have := h.m1; have := h.w1; split <;> omega
  have n4 : ¬ q < 1 := by omega
  have n5 : ¬ 13194139533312 < q := by have := h.q1; omega
  have k1 := h.gm
  have k2 := h.gmw
  have k3 := h.a
  have k4 := h.aa
  have k5 := h.lo hq
  have k6 := h.hi hq
  obtain ⟨k7, k8, k9⟩ := h.holds hq
  have ea : g * m * w * 1048576 = enA g m w := rfl
  have P := epair_at h hq rfl rfl
  have l1 := lolo_bd k5.1 k5.2 h.q0 h.q1
  have l2 := lolo_bd (a := enHi g m w q) (by omega) k6.2.2 h.q0 h.q1
  generalize enLo g m w q = lo at *
  generalize enHi g m w q = hi at *
  have ig : i64 g := ⟨by have := h.g0; omega, by have := h.g1; omega⟩
  have im : i64 m := ⟨by have := h.m0; omega, by have := h.m1; omega⟩
  have iw : i64 w := ⟨by have := h.w0; omega, by have := h.w1; omega⟩
  have iq : i64 q := ⟨by omega, by omega⟩
  have ic : i64 1048576 := by decide
  have il : i64 lo := ⟨by omega, by omega⟩
  have ih : i64 hi := ⟨by omega, by omega⟩
  have iA : i64 (enA g m w) := ⟨by omega, by omega⟩
  have wA := i64_wr iA
  have wgm : wr (g * m) := i64_wr ⟨by omega, by omega⟩
  have wgmw : wr (g * m * w) := i64_wr ⟨by omega, by omega⟩
  have wAA : wr (enA g m w * enA g m w) := ⟨Int.le_trans (by decide) k4.1, Int.lt_of_le_of_lt k4.2 (by decide)⟩
  have wl2 : wr (lo * lo) := ⟨Int.le_trans (by decide) l1.1, Int.lt_of_le_of_lt l1.2.1 (by decide)⟩
  have wl3 : wr (lo * lo * q) := ⟨Int.le_trans (by decide) l1.2.2.1, Int.lt_of_le_of_lt l1.2.2.2 (by decide)⟩
  have wh2 : wr (hi * hi) := ⟨Int.le_trans (by decide) l2.1, Int.lt_of_le_of_lt l2.2.1 (by decide)⟩
  have wh3 : wr (hi * hi * q) := ⟨Int.le_trans (by decide) l2.2.2.1, Int.lt_of_le_of_lt l2.2.2.2 (by decide)⟩
  have t1 := eTimes4 g m w 1048576 ⟨ig, im, iw, ic⟩ ⟨i64_wr ig, wgm, wgmw, by rw [ea]; exact wA⟩
  have t2 := eTimes3 lo lo q ⟨il, il, iq⟩ ⟨i64_wr il, wl2, wl3⟩
  have t3 := eTimes3 hi hi q ⟨ih, ih, iq⟩ ⟨i64_wr ih, wh2, wh3⟩
  rw [ea] at t1
  have s1 := wr_sz wA
  have s2 := wr_sz wAA
  have s3 := wr_sz wl3
  have s4 := wr_sz wh3
  have m0 : ¬ lo < 0 := by omega
  have m1 : ¬ hi < lo := by omega
  have m2 : ¬ lo + 1 < hi := by omega
  have m3 : ¬ 1152921504606846976 < hi := by omega
  have b1 : Int.bmod (lo + 1) 18446744073709551616 = lo + 1 := bm (by omega) (by omega)
  have c1 := cmp_le k7
  have c2 := cmp_le k8
  by_cases c : lo = hi
  · have e := k9.1 c
    subst c
    rw [e] at t2 t3 s3 s4 c1 c2
    repeat' (first | refine gwS ?_ | simp only [wN, wM, Nat.reduceAdd, Nat.reduceMul] | ((first | refine gwR [8] ?_ | refine gwD [8] ?_); intro Q hQ hP; simp [hC, hY, wk, P, n0, n1, n2, n3, n4, n5, m0, m1, m2, m3, b1, s1, s2, s3, s4, c1, c2]; (repeat ((first | (refine heapK_slB t1 (by simp) (by simp) (by simp) ?_ ?_; focus (simp; done)) | (refine heapK_slB t2 (by simp) (by simp) (by simp) ?_ ?_; focus (simp; done)) | (refine heapK_slB t3 (by simp) (by simp) (by simp) ?_ ?_; focus (simp; done))); try simp [hC, hY, wk, P, n0, n1, n2, n3, n4, n5, m0, m1, m2, m3, b1, s1, s2, s3, s4, c1, c2])); (first | refine hQ _ _ _ _ (by kernel_rfl) ?_ | refine hP _ _ (by kernel_rfl) fun _ => ?_); clear hQ hP Q) | refine gwB ?_ | refine gwT ?_ | refine gwK ?_ | refine gwE ?_ | refine gwG ?_ | refine gwL ?_ | simp only [blockG_exit] | (refine gwC ?_ ?_ <;> (intro hb; first | (cases hb; done) | skip)))
    refine ⟨.inr trivial, ?_⟩
    simp [Tryd.results3]
  · have e : ¬ lo * lo * q = enA g m w * enA g m w := fun e => c (k9.2 e)
    have ne := weq (lo * lo * q) (enA g m w * enA g m w)
    rw [s3, s2, decide_eq_false e] at ne
    have c' : (lo == hi) = false := by simpa using c
    repeat' (first | refine gwS ?_ | simp only [wN, wM, Nat.reduceAdd, Nat.reduceMul] | ((first | refine gwR [8] ?_ | refine gwD [8] ?_); intro Q hQ hP; simp [hC, hY, wk, P, n0, n1, n2, n3, n4, n5, m0, m1, m2, m3, b1, s1, s2, s3, s4, c1, c2, c, c', ne]; (repeat ((first | (refine heapK_slB t1 (by simp) (by simp) (by simp) ?_ ?_; focus (simp; done)) | (refine heapK_slB t2 (by simp) (by simp) (by simp) ?_ ?_; focus (simp; done)) | (refine heapK_slB t3 (by simp) (by simp) (by simp) ?_ ?_; focus (simp; done))); try simp [hC, hY, wk, P, n0, n1, n2, n3, n4, n5, m0, m1, m2, m3, b1, s1, s2, s3, s4, c1, c2, c, c', ne])); (first | refine hQ _ _ _ _ (by kernel_rfl) ?_ | refine hP _ _ (by kernel_rfl) fun _ => ?_); clear hQ hP Q) | refine gwB ?_ | refine gwT ?_ | refine gwK ?_ | refine gwE ?_ | refine gwG ?_ | refine gwL ?_ | simp only [blockG_exit] | (refine gwC ?_ ?_ <;> (intro hb; first | (cases hb; done) | skip)))
    refine ⟨.inr trivial, ?_⟩
    simp [Tryd.results3]
set_option maxHeartbeats 2000000 in
theorem EnergyFalls_ok (hw : Ret Tryd.prog G0 6 #[] (.bool true)) {g m w q e : Int} (h : EIn g m w q) (hq : 0 < q) (hq3 : q ≤ 3298534883328) (he0 : 0 ≤ e) (he1 : e ≤ q) : Ret Tryd.prog G0 5 #[.int .i64 g, .int .i64 m, .int .i64 w, .int .i64 q, .int .i64 e] (.bool true) := by
  refine ret_of G0F Tryd.func5 rfl Tryd.call5 rfl (by simp) (by simp [Tryd.ntmps5]) ?_
  intro C hC hC0 hY
  have wk := wakes22_of hw
  have n0 : ¬ g < 1 := by have := h.g0; omega
  have n1 : ¬ 1048576 < g := by have := h.g1; omega
  have n2 : ¬ (if w < m then w else m) < 1 := by have := h.m0; have := h.w0; split <;> omega
  have n3 : ¬ 1024 < (if m < w then w else m) := by have := h.m1; have := h.w1; split <;> omega
  have n4 : ¬ q < 1 := by omega
  have n5 : ¬ 3298534883328 < q := by omega
  have n6 : ¬ e < 0 := by omega
  have n7 : ¬ q < e := by omega
  have h1 : EIn g m w (q + e) := ⟨h.g0, h.g1, h.m0, h.m1, h.w0, h.w1, by omega, by omega⟩
  have h2 : EIn g m w (4 * q) := ⟨h.g0, h.g1, h.m0, h.m1, h.w0, h.w1, by omega, by omega⟩
  have P0 := epair_at h hq rfl rfl
  have P1 := epair_at h1 (by omega) rfl rfl
  have f1 := en_far (t := q + e) h hq (by omega)
  have f2 := en_half h hq
  have f3 := en_swap g m w q
  have P2 := epair_at h2 (by omega) f2.1 f2.2
  have P3 := epair_at h.swap hq f3.1 f3.2
  have k5 := h.lo hq
  have k6 := h.hi hq
  have b1 : Int.bmod (q + e) 18446744073709551616 = q + e := bm (by omega) (by omega)
  have b2 : Int.bmod (4 * q) 18446744073709551616 = 4 * q := bm (by omega) (by omega)
  clear h1 h2 f2 f3
  generalize enLo g m w q = lo at *
  generalize enHi g m w q = hi at *
  generalize enLo g m w (q + e) = lo1 at *
  generalize enHi g m w (q + e) = hi1 at *
  have b3 : Int.bmod (hi + 1) 18446744073709551616 = hi + 1 := bm (by omega) (by omega)
  have d1 : lo.tdiv 2 = lo / 2 := Int.tdiv_eq_ediv_of_nonneg k5.1
  have d2 : (hi + 1).tdiv 2 = (hi + 1) / 2 := Int.tdiv_eq_ediv_of_nonneg (by omega)
  have b4 : Int.bmod (lo / 2) 18446744073709551616 = lo / 2 := bm (by omega) (by omega)
  have b5 : Int.bmod ((hi + 1) / 2) 18446744073709551616 = (hi + 1) / 2 := bm (by omega) (by omega)
  have f10 := f1.1
  have f11 := f1.2
  repeat' (first | refine gwS ?_ | simp only [wN, wM, Nat.reduceAdd, Nat.reduceMul] | ((first | refine gwR [] ?_ | refine gwD [] ?_); intro Q hQ hP; simp [hC, hY, wk, P0, P1, P2, P3, n0, n1, n2, n3, n4, n5, n6, n7, b1, b2, b3, b4, b5, d1, d2, f10, f11]; (first | refine hQ _ _ _ _ (by kernel_rfl) ?_ | refine hP _ _ (by kernel_rfl) fun _ => ?_); clear hQ hP Q) | refine gwB ?_ | refine gwT ?_ | refine gwK ?_ | refine gwE ?_ | refine gwG ?_ | refine gwL ?_ | simp only [blockG_exit] | (refine gwC ?_ ?_ <;> (intro hb; first | (cases hb; done) | skip)))
  refine ⟨.inr trivial, ?_⟩
  simp [Tryd.results5]
theorem EIn_of {g m w q : Int} (hb : ¬ (g < 1 ∨ 1048576 < g ∨ (if w < m then w else m) < 1 ∨ 1024 < (if m < w then w else m) ∨ q < 1 ∨ 13194139533312 < q)) : EIn g m w q ∧ 0 < q := by
  have e1 : ¬ (if w < m then w else m) < 1 ∧ ¬ 1024 < (if m < w then w else m) := ⟨fun e => hb (by simp [e]), fun e => hb (by simp [e])⟩
  obtain ⟨e1, e2⟩ := e1
  refine ⟨⟨?_, ?_, ?_, ?_, ?_, ?_, ?_, ?_⟩, ?_⟩ <;> (split at e1 <;> split at e2 <;> omega)
theorem EnergyHolds_law (hw : Ret Tryd.prog G0 6 #[] (.bool true)) (g m w q : Int) : Ret Tryd.prog G0 3 #[.int .i64 g, .int .i64 m, .int .i64 w, .int .i64 q] (.bool true) := by
  by_cases hb : g < 1 ∨ 1048576 < g ∨ (if w < m then w else m) < 1 ∨ 1024 < (if m < w then w else m) ∨ q < 1 ∨ 13194139533312 < q
  · exact EnergyHolds_bad hw g m w q hb
  · obtain ⟨h1, h2⟩ := EIn_of hb
    exact EnergyHolds_ok hw h1 h2
theorem EnergyFalls_law (hw : Ret Tryd.prog G0 6 #[] (.bool true)) (g m w q e : Int) : Ret Tryd.prog G0 5 #[.int .i64 g, .int .i64 m, .int .i64 w, .int .i64 q, .int .i64 e] (.bool true) := by
  by_cases hb : g < 1 ∨ 1048576 < g ∨ (if w < m then w else m) < 1 ∨ 1024 < (if m < w then w else m) ∨ q < 1 ∨ 3298534883328 < q ∨ e < 0 ∨ q < e
  · exact EnergyFalls_bad hw g m w q e hb
  · simp only [not_or] at hb
    obtain ⟨h0, h1, h2, h3, h4, h5, h6, h7⟩ := hb
    obtain ⟨k1, k2⟩ := EIn_of (g := g) (m := m) (w := w) (q := q) (by simp only [not_or]; exact ⟨h0, h1, h2, h3, h4, by omega⟩)
    exact EnergyFalls_ok hw k1 k2 (by omega) (by omega) (by omega)
theorem eplus_ret (a n : Int) (hi : i64 n) : Ret Tryd.prog G0 54 #[wd a, .int .i64 n] (wd (a + n)) := by
  refine ret_of G0F Tryd.func54 rfl Tryd.call54 (by simp) (by simp) (by simp [Tryd.ntmps54]) ?_
  intro C hC hC0 hY
  repeat' (first | refine gwS ?_ | simp only [wN, wM, Nat.reduceAdd, Nat.reduceMul] | ((first | refine gwR [] ?_ | refine gwD [] ?_); intro Q hQ hP; simp [hC, hY, hi]; (first | refine hQ _ _ _ _ (by kernel_rfl) ?_ | refine hP _ _ (by kernel_rfl) fun _ => ?_); clear hQ hP Q) | refine gwB ?_ | refine gwT ?_ | refine gwK ?_ | refine gwE ?_ | refine gwG ?_ | refine gwL ?_ | simp only [blockG_exit] | (refine gwC ?_ ?_ <;> (intro hb; first | (cases hb; done) | skip)))
  refine ⟨.inr trivial, ?_⟩
  simp [Tryd.results54]
@[simp] theorem eplus (a n : Int) (hi : i64 n) (K : Value → Prop) : callK Tryd.prog G0 54 #[Value.agg #[.int .u64 (wi (a) 0), .int .u64 (wi (a) 1), .int .u64 (wi (a) 2), .int .u64 (wi (a) 3)], .int .i64 n] K ↔ K (wd (a + n)) := callK_iff G0W (by kernel_rfl) (eplus_ret a n hi)
def spV (lo hi : Int) : Value := .agg #[.int .u64 (wi lo 0), .int .u64 (wi lo 1), .int .u64 (wi lo 2), .int .u64 (wi lo 3), .int .u64 (wi hi 0), .int .u64 (wi hi 1), .int .u64 (wi hi 2), .int .u64 (wi hi 3)]
@[simp] theorem spV_flat (lo hi : Int) : flatV (spV lo hi) = true := by simp [spV]
def holdB (lo hi a : Int) : Bool := decide (cmpI (sz lo) (sz a) ≤ 0) && decide (cmpI (sz a) (sz hi) ≤ 0)
theorem eholds_ret (lo hi a : Int) : Ret Tryd.prog G0 21 #[spV lo hi, wd a] (.bool (holdB lo hi a)) := by
  refine ret_of G0F Tryd.func21 rfl Tryd.call21 rfl (by simp) (by simp [Tryd.ntmps21]) ?_
  intro C hC hC0 hY
  unfold spV holdB
  by_cases h1 : cmpI (sz lo) (sz a) ≤ 0
  · rw [decide_eq_true h1]
    repeat' (first | refine gwS ?_ | simp only [wN, wM, Nat.reduceAdd, Nat.reduceMul] | ((first | refine gwR [] ?_ | refine gwD [] ?_); intro Q hQ hP; simp [hC, hY, h1]; (first | refine hQ _ _ _ _ (by kernel_rfl) ?_ | refine hP _ _ (by kernel_rfl) fun _ => ?_); clear hQ hP Q) | refine gwB ?_ | refine gwT ?_ | refine gwK ?_ | refine gwE ?_ | refine gwG ?_ | refine gwL ?_ | simp only [blockG_exit] | (refine gwC ?_ ?_ <;> (intro hb; first | (cases hb; done) | skip)))
    refine ⟨.inr trivial, ?_⟩
    simp [Tryd.results21]
  · rw [decide_eq_false h1]
    repeat' (first | refine gwS ?_ | simp only [wN, wM, Nat.reduceAdd, Nat.reduceMul] | ((first | refine gwR [] ?_ | refine gwD [] ?_); intro Q hQ hP; simp [hC, hY, h1]; (first | refine hQ _ _ _ _ (by kernel_rfl) ?_ | refine hP _ _ (by kernel_rfl) fun _ => ?_); clear hQ hP Q) | refine gwB ?_ | refine gwT ?_ | refine gwK ?_ | refine gwE ?_ | refine gwG ?_ | refine gwL ?_ | simp only [blockG_exit] | (refine gwC ?_ ?_ <;> (intro hb; first | (cases hb; done) | skip)))
    refine ⟨.inr trivial, ?_⟩
    simp [Tryd.results21]
theorem ewidth_small (lo hi : Int) (hl : wr lo) (hh : wr hi) (h0 : lo ≤ hi) (h1 : i64 (hi - lo)) : Ret Tryd.prog G0 19 #[spV lo hi] (.tuple #[.int .i64 (hi - lo), .bool true]) := by
  refine ret_of G0F Tryd.func19 rfl Tryd.call19 (by simp) (by simp) (by simp [Tryd.ntmps19]) ?_
  intro C hC hC0 hY
  have w := i64_wr h1
  have s1 := wr_sz w
  have g1 := wr_ng hl
  have g2 := wr_ng hh
  have g3 := ng_f w (by omega)
  have n0 : 0 ≤ hi - lo := by omega
  have n1 : lo ≤ hi := h0
  have hov : (!decide (hi < 0) != decide (lo < 0) || !decide (hi < 0)) = true := by
    by_cases a : hi < 0
    · have b : lo < 0 := by omega
      simp [a, b]
    · simp [a]
  unfold spV
  repeat' (first | refine gwS ?_ | simp only [wN, wM, Nat.reduceAdd, Nat.reduceMul] | ((first | refine gwR [] ?_ | refine gwD [] ?_); intro Q hQ hP; simp [hC, hY, h1, s1, g1, g2, g3, n0, n1, hov]; (first | refine hQ _ _ _ _ (by kernel_rfl) ?_ | refine hP _ _ (by kernel_rfl) fun _ => ?_); clear hQ hP Q) | refine gwB ?_ | refine gwT ?_ | refine gwK ?_ | refine gwE ?_ | refine gwG ?_ | refine gwL ?_ | simp only [blockG_exit] | (refine gwC ?_ ?_ <;> (intro hb; first | (cases hb; done) | skip)))
  refine ⟨.inr trivial, ?_⟩
  simp [Tryd.results19]
end Go.Gy
namespace Go.Gy
set_option linter.unusedSimpArgs false
set_option linter.unusedVariables false
open Go Go.RowKit
section
variable {P : Program} {C : Ctx} {n : Nat} {d : List Deferred} {ro : Option Nat} {s : GS} {K : Exit → GS → Prop}
theorem GI.freeze {r : Nat → Nat} {a : Act} {W : World} {k t : Nat} {cs : Array Value} (hk : s.hp k = some ⟨cs, .ty t⟩) (h100 : 100 ≤ k) (h : GI P C n d r s a W) : GI P C n d r ⟨s.ts, upd s.hp k (some ⟨cs.map (renF r), .raw t (0, 0)⟩), s.B, s.yc⟩ a W := by
  have hD : dom (upd s.hp k (some ⟨cs.map (renF r), .raw t (0, 0)⟩)) = dom s.hp := by
    funext q
    unfold dom
    by_cases e : q = k
    · subst e
      rw [upd_same, hk]
      simp
    · rw [upd_other _ _ e]
  have hkB : ¬ s.B ≤ k := fun hb => by have := h.free k hb; rw [hk] at this; cases this
  refine ⟨⟨h.ri.size, ?_, fun q b hq => ?_, ?_, ?_, fun i hi => ?_, fun q hq => ?_, fun q hq hd => ?_⟩, fun x hx => ?_, h.low, h.flat, h.rounds⟩
  · show Rel r (dom (upd s.hp k _)) s.ts a
    rw [hD]
    exact h.ri.rel
  · show W.heap[r q]? = some (b.obj r) ∧ b.ids (dom (upd s.hp k _))
    rw [hD]
    by_cases e : q = k
    · subst e
      have hq' : some (Blk.mk (cs.map (renF r)) (.raw t (0, 0))) = some b := (upd_same _ _ _).symm.trans hq
      cases hq'
      exact ⟨(h.ri.sat q _ hk).1, trivial⟩
    · have hq' : s.hp q = some b := (upd_other _ _ e).symm.trans hq
      exact h.ri.sat q b hq'
  · show Inj r (dom (upd s.hp k _))
    rw [hD]
    exact h.ri.inj
  · obtain ⟨S, ms, h1, h2, h3, h4⟩ := h.ri.ext
    refine ⟨S, ms, h1, h2, fun i hi => ?_, h4⟩
    have hi' : dom (upd s.hp k (some ⟨cs.map (renF r), .raw t (0, 0)⟩)) i := hi
    rw [hD] at hi'
    exact h3 i hi'
  · show dom (upd s.hp k _) i ∧ _
    rw [hD]
    exact h.ri.keep i hi
  · show upd s.hp k _ q = _
    rw [upd_other _ _ (by omega)]
    exact h.ri.glob q hq
  · have hd' : dom (upd s.hp k (some ⟨cs.map (renF r), .raw t (0, 0)⟩)) q := hd
    rw [hD] at hd'
    exact h.ri.low q hq hd'
  · show upd s.hp k _ x = none
    have hx' : s.B ≤ x := hx
    rw [upd_other _ _ (by omega)]
    exact h.free x hx'
theorem GW_freeze {c : Code} (k : Nat) {t : Nat} {cs : Array Value} (hk : s.hp k = some ⟨cs, .ty t⟩) (h100 : 100 ≤ k) (h : ∀ cs' : Array Value, cs'.size = cs.size → (∀ (j : Nat) (v : Value), cs[j]? = some v → flatF v = true → cs'[j]? = some v) → GW P C n d ro c ⟨s.ts, upd s.hp k (some ⟨cs', .raw t (0, 0)⟩), s.B, s.yc⟩ K) : GW P C n d ro c s K := fun r a W hi =>
  h (cs.map (renF r)) (by simp) (fun j v hj hf => by simp [hj, flatF_ren hf]) r a W (hi.freeze hk h100)
end
end Go.Gy
namespace Go.Gy
set_option linter.unusedSimpArgs false
set_option linter.unusedVariables false
open Go Go.RowKit Go.Proofs
set_option maxRecDepth 8000 in
set_option maxHeartbeats 4000000 in
theorem epot_bad (L : List (Nat × Blk)) (ks : Nat) (bm bs : Blk) (hT : LTwo G0 L ks bm bs) (off n cap off2 n2 cap2 : Nat) (fm fs : Nat → Int) (hm : MB bm off n fm) (hSb : SB bs off2 n2 fs) (g bx tp nr md st : Int) (hs : i64 st)
    (hf : fitB n n2 (cfOk n fm g bx tp nr md) (rightB st fs n2) = false) :
    Fun Tryd.prog G0 34 #[cfV (.slice (some ⟨100, off, none⟩) n cap) g bx tp nr md, .agg #[.int .i64 st, .slice (some ⟨ks, off2, none⟩) n2 cap2]] (hpL G0 L) (keys L) (.ret (.tuple #[spV 0 0, .int .i64 2]) []) := by
  refine fun_ofL (B := 200) G0F Tryd.func34 rfl Tryd.call34 hT.ok ?_ (flatV_ids (by simp [spV])) (by simp) (by simp) (by simp [Tryd.ntmps34]) (by omega) ?_
  · simp [idsV, idsA, idsF, ids0, hT.ia, hT.ib, cfV]
  intro C hC hC0 hY
  have hA := hT.a
  have hS := hT.s
  have hne := hT.ne
  have hLow := hT.low
  have hks := hT.k1
  have hks2 := hT.k2
  have hfit := kFits_L L ks bm bs hT off n cap off2 n2 cap2 fm fs hm hSb g bx tp nr md st hs
  rw [hf] at hfit
  unfold cfV at hfit ⊢
  repeat' (first | refine gwS ?_ | simp only [wN, wM, Nat.reduceAdd, Nat.reduceMul] | ((first | refine gwR [38] ?_ | refine gwD [38] ?_); intro Q hQ hP; simp [hC, hY, hA, hS, hne, wi_zero]; (repeat ((first | (refine heapK_L hfit hT.ok (by (intro p hp; have hpb := hT.ok.big p hp; (try dsimp only); simp (disch := omega) only [addB, upd_other, hpL_cons, hpL_nil, if_neg, updL, List.cons_append, List.nil_append]; first | exact hT.mem p hp | exact cL p hp)) ?_)); try simp [hC, hY, hA, hS, hne, wi_zero])); (first | refine hQ _ _ _ _ (by kernel_rfl) ?_ | refine hP _ _ (by kernel_rfl) fun _ => ?_); clear hQ hP Q) | refine gwB ?_ | refine gwT ?_ | refine gwK ?_ | refine gwE ?_ | refine gwG ?_ | refine gwL ?_ | simp only [blockG_exit] | (refine gwC ?_ ?_ <;> (intro hb; first | (cases hb; done) | skip)))
  refine ⟨.inr rfl, by simp [Tryd.results34, wi_zero, spV], keep_of G0F (by (intro p hp; have hpb := hT.ok.big p hp; first | rfl | (simp (disch := omega) only [addB, upd_other, hpL_cons, hpL_nil, if_neg, updL, List.cons_append, List.nil_append] <;> done))) (by (intro k hk; first | exact hLow k hk | (simp (disch := omega) only [hLow, addB, List.mem_cons, List.not_mem_nil, or_false, upd_other, hpL_cons, hpL_nil, if_neg, updL, List.cons_append, List.nil_append] <;> done)))⟩
def ezB (cq : Array Value) : Blk := ⟨cq, .raw 36 (0, 0)⟩
theorem ezB_rn {cq : Array Value} {ρ : Nat → Nat} : (ezB cq).rn ρ = ezB cq := rfl
theorem ezB_ids {cq : Array Value} {D : Nat → Prop} : (ezB cq).ids D := trivial
theorem ez_ld {cq : Array Value} {g : Int} (h1 : cq[1]? = some (.int .i64 g)) : loadK Tryd.prog 3 ⟨cq, .raw 36 (0, 0)⟩ 1 = some (.int .i64 g) := by
  unfold loadK
  simp [h1, flatV, flatF, flat0]
def spB (lo hi : Int) : Blk := ⟨#[.int .u64 (wi lo 0), .int .u64 (wi lo 1), .int .u64 (wi lo 2), .int .u64 (wi lo 3), .int .u64 (wi hi 0), .int .u64 (wi hi 1), .int .u64 (wi hi 2), .int .u64 (wi hi 3)], .ty 48⟩
def epTs : List (Nat × Value) := [(2, .pointer (some ⟨200, 0, none⟩)), (4, .pointer (some ⟨216, 0, none⟩)), (5, .pointer (some ⟨224, 0, none⟩))]
def epM (cq : Array Value) (lo hi : Int) : List (Nat × Blk) := [(200, ezB cq), (216, spB lo hi), (224, ⟨#[.int .i64 0], .ty 23⟩)]
def epI (cq : Array Value) (F H : Nat → Nat → Int) (l : List (Nat × Nat)) (j : Nat) (h : Hp) : Prop := h = hpL G0 (epM cq (pS F (l.take j)) (pS H (l.take j)))
def epr (k : Nat) : Nat := if k = 200 then 280 else if k = 208 then 281 else k
theorem eIn {asd : List Nat} {f g : Hp} {k : Nat} (h : k ∈ asd) : addB asd f g k = f k := if_pos h
theorem eNi {asd : List Nat} {f g : Hp} {k : Nat} (h : k ∉ asd) : addB asd f g k = g k := if_neg h
theorem eOut {G : Hp} : ∀ {L : List (Nat × Blk)} {k : Nat}, k ∉ keys L → hpL G L k = G k
  | [], _, _ => rfl
  | (q, c) :: L, k, h => by
    simp only [keys, List.map_cons, List.mem_cons, not_or] at h
    rw [hpL_cons, if_neg h.1]
    exact eOut h.2
theorem eAsd {L : List (Nat × Blk)} (hL : LOk L 200) : (fun k => if k ∈ 280 :: 281 :: keys L then none else hpL G0 L k) = hpL G0 [] := by
  funext k
  simp only [hpL_nil]
  split
  · rename_i hm
    rcases List.mem_cons.1 hm with rfl | hm
    · exact (G0_big _ (by omega)).symm
    · rcases List.mem_cons.1 hm with rfl | hm
      · exact (G0_big _ (by omega)).symm
      · obtain ⟨p, hp, rfl⟩ := mem_keys.1 hm
        exact (G0_big _ (hL.big p hp).1).symm
  · rename_i hm
    exact eOut fun h => hm (List.mem_cons_of_mem _ (List.mem_cons_of_mem _ h))
theorem epr_id {k : Nat} (h : k < 200) : epr k = k := by unfold epr; rw [if_neg (by omega), if_neg (by omega)]
set_option maxRecDepth 8000 in
set_option maxHeartbeats 4000000 in
theorem epot_fit (L : List (Nat × Blk)) (ks : Nat) (bm bs : Blk) (hT : LTwo G0 L ks bm bs) (off n cap off2 cap2 : Nat) (fm fs : Nat → Int) (hm : MB bm off n fm) (hSb : SB bs off2 n fs) (hcap2 : n ≤ cap2) (g bx tp nr md st : Int) (hs : i64 st)
    (hok : cfOk n fm g bx tp nr md = true) (hrt : rightB st fs n = true) (hz : potZ fs n = 0) :
    Fun Tryd.prog G0 34 #[cfV (.slice (some ⟨100, off, none⟩) n cap) g bx tp nr md, .agg #[.int .i64 st, .slice (some ⟨ks, off2, none⟩) n cap2]] (hpL G0 L) (keys L) (.ret (.tuple #[spV (potLo g fm fs n) (potHi g fm fs n), .int .i64 0]) []) := by
  refine fun_ofL (B := 200) G0F Tryd.func34 rfl Tryd.call34 hT.ok ?_ (flatV_ids (by simp [spV])) (by simp) (by simp) (by simp [Tryd.ntmps34]) (by omega) ?_
  · simp [idsV, idsA, idsF, ids0, hT.ia, hT.ib, cfV]
  intro C hC hC0 hY
  have hA := hT.a
  have hS := hT.s
  have hne := hT.ne
  have hLow := hT.low
  have hks := hT.k1
  have hks2 := hT.k2
  have hfit := kFits_L L ks bm bs hT off n cap off2 n cap2 fm fs hm hSb g bx tp nr md st hs
  rw [fitB_iff.2 ⟨rfl, hok, hrt⟩] at hfit
  have hn4 := (right_n hrt).2.1
  have hpr := epairs_at 280 (by omega) L ks bm bs hT off n cap off2 n cap2 g bx tp nr md st
  unfold cfV at hfit hpr ⊢
  repeat' (first | refine gwS ?_ | simp only [wN, wM, Nat.reduceAdd, Nat.reduceMul] | ((first | refine gwR [38] ?_ | refine gwD [38] ?_); intro Q hQ hP; simp [hC, hY, hA, hS, hne, wi_zero]; (repeat ((first | (refine heapK_L hfit hT.ok (by (intro p hp; have hpb := hT.ok.big p hp; (try dsimp only); simp (disch := omega) only [addB, upd_other, hpL_cons, hpL_nil, if_neg, updL, List.cons_append, List.nil_append]; first | exact hT.mem p hp | exact cL p hp)) ?_)); try simp [hC, hY, hA, hS, hne, wi_zero])); (first | refine hQ _ _ _ _ (by kernel_rfl) ?_ | refine hP _ _ (by kernel_rfl) fun _ => ?_); clear hQ hP Q) | refine gwB ?_ | refine gwT ?_ | refine gwK ?_ | refine gwE ?_ | refine gwG ?_ | refine gwL ?_ | simp only [blockG_exit] | (refine gwC ?_ ?_ <;> (intro hb; first | (cases hb; done) | skip)))
  refine GW_list ?_
  simp only [Array.toList]
  refine GL_walk 2 [] rfl (by simp) (by kernel_rfl) ?_; intro q hq; simp [hC, hY, hA, hS, hne]; refine hq _ _ _ _ ?_; clear hq q
  simp only [wT, List.length_cons, List.length_nil, Nat.reduceAdd]
  refine GL_callL (f := .func 53) (cap := #[]) hC hpr rfl (by simp) rfl rfl (by simp [okT]) (by simp [gev]) (by simp) (by simp [okX, junk]) (by simp [gev]) (by intro q hq; obtain ⟨p, hp, rfl⟩ := mem_keys.1 hq; have hpb := hT.ok.big p hp; (try dsimp only); simp (disch := omega) only [upd_other]) (by (intro k hk; first | exact hLow k hk | (simp (disch := omega) only [hLow, addB, List.mem_cons, List.not_mem_nil, or_false, upd_other, hpL_cons, hpL_nil, if_neg, updL, List.cons_append, List.nil_append] <;> done))) (fun v ns hV k hk => by have := epairsR_key hV k hk; simp; omega) ?_
  rintro v ns ⟨rfl, rfl⟩
  refine GL_nil ?_
  repeat' (first | refine gwS ?_ | simp only [wN, wM, Nat.reduceAdd, Nat.reduceMul] | ((first | refine gwR [] ?_ | refine gwD [] ?_); intro Q hQ hP; simp [hC, hY, putT, updL, hA, hS, hne]; (first | refine hQ _ _ _ _ (by kernel_rfl) ?_ | refine hP _ _ (by kernel_rfl) fun _ => ?_); clear hQ hP Q) | refine gwB ?_ | refine gwT ?_ | refine gwK ?_ | refine gwE ?_ | refine gwG ?_ | refine gwL ?_ | simp only [blockG_exit] | (refine gwC ?_ ?_ <;> (intro hb; first | (cases hb; done) | skip)))
  simp only [putT, updL]
  refine GW_freeze 200 (t := 36) (cs := #[.slice (some ⟨100, off, none⟩) n cap, .int .i64 g, .int .i64 bx, .int .i64 tp, .int .i64 nr, .int .i64 md]) (by simp [cfB]) (by omega) ?_
  intro cq hq1 hq2
  have hq4 : cq[1]? = some (.int .i64 g) := hq2 1 _ rfl rfl
  have hq6 : cq.size = 6 := hq1
  have hidL : ∀ k ∈ keys L, epr k = k := fun k hk => by
    obtain ⟨p, hp, rfl⟩ := mem_keys.1 hk
    exact epr_id (hT.ok.big p hp).2
  have hout : ∀ k, 200 ≤ k → k ≠ 280 → k ≠ 281 → (k ∈ 280 :: 281 :: keys L) = False := fun k h1 h2 h3 => eq_false fun hm => by
    rcases List.mem_cons.1 hm with e | hm
    · exact h2 e
    · rcases List.mem_cons.1 hm with e | hm
      · exact h3 e
      · obtain ⟨p, hp, rfl⟩ := mem_keys.1 hm
        have := (hT.ok.big p hp).2
        omega
  have hasd : ∀ C0 : Ctx, (C0.hp0 = fun k => if k ∈ 280 :: 281 :: keys L then none else C.hp0 k) → C0.hp0 = hpL G0 [] := fun C0 h0 => by
    rw [h0, hC0]
    exact eAsd hT.ok
  refine GW_rangeK (f := 70) (rs := 280 :: 281 :: keys L) (xs := (epIx n).map fun p => epV fm fs p.1 p.2) (caps := #[.pointer (some ⟨281, 0, none⟩), .pointer (some ⟨280, 0, none⟩)]) (280 :: 281 :: keys L) hY (by simp) ?_ ?_ (by simp [Tryd.ntmps34]) (tsL epTs) (tsL epTs) (epI cq (fun i k => enLo g (fm i) (fm k) (esqF fs i k)) (fun i k => enHi g (fm i) (fm k) (esqF fs i k)) (epIx n)) (hpS := hpL G0 (epM cq 0 0)) 300 (epIx n).length (by simp) (fun k hk => hk) ?_ ?_ ?_ ?_ ?_ (fun _ => .inl rfl) ?_ ?_
  · rw [hC]
    refine iterk_mv (epairs_it L ks bm bs hT off n cap off2 cap2 fm fs hm hSb hcap2 hn4 g bx tp nr md st) G0F (enM_ok hT off n cap off2 n cap2 g bx tp nr md st) epr (fun k hk => epr_id (by omega)) (by simp [ren0, epr]) ?_ (by (intro k hk; first | exact hLow k hk | (simp (disch := omega) only [hLow, addB, List.mem_cons, List.not_mem_nil, or_false, upd_other, hpL_cons, hpL_nil, if_neg, updL, List.cons_append, List.nil_append] <;> done))) ?_ ?_
    · show epr 200 :: epr 208 :: (keys L).map epr = _
      rw [List.map_congr_left hidL]
      simp [epr]
    · intro p hp
      rcases List.mem_cons.1 hp with rfl | hp
      · simp [epr, cfB, Blk.rn, renF, ren0, upd]
      · rcases List.mem_cons.1 hp with rfl | hp
        · have h3 : epr ks = ks := epr_id hks2
          simp [stB', Blk.rn, renF, ren0, upd, h3]
          simp [epr, upd]
        · have hpb := hT.ok.big p hp
          rw [epr_id hpb.2, Blk.fx_rn (hT.fx p hp)]
          refine ⟨hpb.1, ?_⟩
          (try dsimp only)
          simp (disch := omega) only [addB, upd_other, hpL_cons, hpL_nil, if_neg, updL]
          exact hT.mem p hp
    · have key : ∀ k ∈ keys (enM L ks off n cap off2 n cap2 g bx tp nr md st), (k = 200 ∧ epr k = 280) ∨ (k = 208 ∧ epr k = 281) ∨ (k < 200 ∧ epr k = k) := fun k hk => by
        rcases List.mem_cons.1 hk with rfl | hk
        · exact .inl ⟨rfl, rfl⟩
        · rcases List.mem_cons.1 hk with rfl | hk
          · exact .inr (.inl ⟨rfl, rfl⟩)
          · obtain ⟨p, hp, rfl⟩ := mem_keys.1 hk
            have := (hT.ok.big p hp).2
            exact .inr (.inr ⟨this, epr_id this⟩)
      intro k hk l hl e
      have := key k hk
      have := key l hl
      omega
  · intro x hx
    simp only [List.mem_map] at hx
    obtain ⟨p, _, rfl⟩ := hx
    simp [epV]
  · intro k hk
    rcases List.mem_cons.1 hk with rfl | hk
    · simp [dom, upd]
    · rcases List.mem_cons.1 hk with rfl | hk
      · simp [dom, upd]
      · obtain ⟨p, hp, rfl⟩ := mem_keys.1 hk
        have hpb := hT.ok.big p hp
        refine ⟨hpb.1, ?_⟩
        unfold dom
        dsimp only
        simp (disch := omega) only [addB, upd_other, hpL_cons, hpL_nil, if_neg, updL]
        rw [hT.mem p hp]
        simp
  · intro k hk b hb1
    rcases List.mem_cons.1 hk with rfl | hk
    · simp [upd] at hb1; subst hb1; simp [cfB, ids_lit, idsF, ids0, hT.ia]
    · rcases List.mem_cons.1 hk with rfl | hk
      · simp [upd] at hb1; subst hb1; simp [stB', ids_lit, idsF, ids0, hT.ib]
      · obtain ⟨p, hp, rfl⟩ := mem_keys.1 hk
        have hpb := hT.ok.big p hp
        dsimp only at hb1
        simp (disch := omega) only [addB, upd_other, hpL_cons, hpL_nil, if_neg, updL] at hb1
        rw [hT.mem p hp] at hb1
        simp only [Option.some.injEq] at hb1
        subst hb1
        exact Blk.fx_ids (hT.fx p hp) _
  · intro C0 h1 h2
    refine weakL _ 300 (h1.trans hC) G0F (m0 := []) (hasd C0 h2) (by omega) ?_ ?_ ?_
    · simp [epTs, epM, idsV, idsA, idsF, ids0, dom]
    · simp [epM, ezB_ids, spB, ids_lit, idsF, ids0, dom, upd, wi_zero]
      rfl
    · simp
  · simp [epI, pS]
  · intro k hk
    have h3 : k = 280 ∨ k = 281 ∨ (100 ≤ k ∧ k < 200) := by
      rcases List.mem_cons.1 hk with rfl | hk
      · exact .inl rfl
      · rcases List.mem_cons.1 hk with rfl | hk
        · exact .inr (.inl rfl)
        · obtain ⟨p, hp, rfl⟩ := mem_keys.1 hk
          exact .inr (.inr (hT.ok.big p hp))
    rw [eOut (fun hm => ?_)]
    · exact G0_big k (by omega)
    · simp [epM, keys] at hm
      omega
  · intro j x hq0 hj hx hI C1 lb hC1 hh1 hY1
    unfold epI at hI
    subst hI
    rw [List.getElem?_map, List.getElem?_eq_getElem hj] at hx
    simp only [Option.map_some, Option.some.injEq] at hx
    subst hx
    have t1 := pS_take (fun i k => enLo g (fm i) (fm k) (esqF fs i k)) hj
    have t2 := pS_take (fun i k => enHi g (fm i) (fm k) (esqF fs i k)) hj
    have hmem := List.getElem_mem hj
    unfold epI
    rw [t1, t2]
    clear t1 t2
    generalize (epIx n)[j] = p at *
    obtain ⟨hl1, hl2⟩ := epIx_lt hmem
    have hsq := esq_in hrt (i := p.1) (k := p.2) hl2 (by omega)
    have hz1 : ¬ esqF fs p.1 p.2 = 0 := fun e => by
      have := (sum2_zero (Z := fun i k => if esqF fs i k = 0 then 1 else 0) (fun i k => by by_cases c : esqF fs i k = 0 <;> simp [c]) n).1 hz p.1 p.2 hl1 hl2
      simp [e] at this
    have hg := cfOk_g hok
    have hm1 := cfOk_mass hok (i := p.1) hl2
    have hm2 := cfOk_mass hok (i := p.2) (by omega)
    have hEI : EIn g (fm p.1) (fm p.2) (esqF fs p.1 p.2) := ⟨hg.1, hg.2, hm1.1, hm1.2, hm2.1, hm2.2, hsq.1, hsq.2⟩
    have P := epair_at hEI (by omega) rfl rfl
    have hlo := hEI.lo (by omega)
    have hhi := hEI.hi (by omega)
    have hld := ez_ld hq4
    generalize pS (fun i k => enLo g (fm i) (fm k) (esqF fs i k)) ((epIx n).take j) = A at *
    generalize pS (fun i k => enHi g (fm i) (fm k) (esqF fs i k)) ((epIx n).take j) = H at *
    generalize enLo g (fm p.1) (fm p.2) (esqF fs p.1 p.2) = lo at *
    generalize enHi g (fm p.1) (fm p.2) (esqF fs p.1 p.2) = hi at *
    have il : i64 lo := ⟨by omega, by omega⟩
    have ih : i64 hi := ⟨by omega, by omega⟩
    have hCC := hC
    have hC1' : C1.G = G0 := hC1.trans hC
    unfold epV
    clear hC hY
    have hC := hC1'
    have hY := hY1
    unfold epM spB ezB
    repeat' (first | refine gwS ?_ | simp only [wN, wM, Nat.reduceAdd, Nat.reduceMul] | ((first | refine gwR [] ?_ | refine gwD [] ?_); intro Q hQ hP; simp [hC, hY, roundTs, epTs]; (first | refine hQ _ _ _ _ (by kernel_rfl) ?_ | refine hP _ _ (by kernel_rfl) fun _ => ?_); clear hQ hP Q) | refine gwB ?_ | refine gwT ?_ | refine gwK ?_ | refine gwE ?_ | refine gwG ?_ | refine gwL ?_ | simp only [blockG_exit] | (refine gwC ?_ ?_ <;> (intro hb; first | (cases hb; done) | skip)))
    intro C2 hC2 hh2 hY2
    clear hC hY
    have hC : C2.G = G0 := hC2.trans hCC
    have hY := hY2
    repeat' (first | refine gwS ?_ | simp only [wN, wM, Nat.reduceAdd, Nat.reduceMul] | ((first | refine gwR [] ?_ | refine gwD [] ?_); intro Q hQ hP; simp [hC, hY, P, hld, il, ih]; (first | refine hQ _ _ _ _ (by kernel_rfl) ?_ | refine hP _ _ (by kernel_rfl) fun _ => ?_); clear hQ hP Q) | refine gwB ?_ | refine gwT ?_ | refine gwK ?_ | refine gwE ?_ | refine gwG ?_ | refine gwL ?_ | simp only [blockG_exit] | (refine gwC ?_ ?_ <;> (intro hb; first | (cases hb; done) | skip)))
    refine ⟨fun k => k, hpL G0 (epM cq (A + lo) (H + hi)), fun C0 h1 h2 => weakRL _ _ 300 (h1.trans hCC) G0F (m0 := []) (hasd C0 h2) (by omega) ?_ ?_ ?_ ?_ ?_, rfl⟩
    · simp [epTs, epM, dom, junk, ren, renA, renF, ren0, idsV, idsA, idsF, ids0]
    · simp [epM, ezB_rn, ezB_ids, spB, Blk.rn, renF, ren0, ids_lit, idsF, ids0, dom]
      rfl
    · simp [epM]
    · intro k hk; rfl
    · simp
  · refine .inl ⟨by simp, ?_⟩
    rintro hq hI
    have hI' : hq = hpL G0 (epM cq (potLo g fm fs n) (potHi g fm fs n)) := by
      rw [hI, List.take_length]
      unfold potLo potHi
      rw [sum2_ep _ hn4, sum2_ep _ hn4]
    subst hI'
    refine ⟨fun k hk => ?_, ?_⟩
    · have h3 : k = 280 ∨ k = 281 ∨ (100 ≤ k ∧ k < 200) := by
        rcases List.mem_cons.1 hk with rfl | hk
        · exact .inl rfl
        · rcases List.mem_cons.1 hk with rfl | hk
          · exact .inr (.inl rfl)
          · obtain ⟨p, hp, rfl⟩ := mem_keys.1 hk
            exact .inr (.inr (hT.ok.big p hp))
      refine ⟨?_, by omega⟩
      rw [eOut (fun hm => ?_)]
      · exact G0_big k (by omega)
      · simp [epM, keys] at hm
        omega
    have hm16 := hout 216 (by omega) (by omega) (by omega)
    have hm24 := hout 224 (by omega) (by omega) (by omega)
    unfold epTs epM spB
    repeat' (first | refine gwS ?_ | simp only [wN, wM, Nat.reduceAdd, Nat.reduceMul] | ((first | refine gwR [] ?_ | refine gwD [] ?_); intro Q hQ hP; simp [hC, hY, addB, hm16, hm24]; (first | refine hQ _ _ _ _ (by kernel_rfl) ?_ | refine hP _ _ (by kernel_rfl) fun _ => ?_); clear hQ hP Q) | refine gwB ?_ | refine gwT ?_ | refine gwK ?_ | refine gwE ?_ | refine gwG ?_ | refine gwL ?_ | simp only [blockG_exit] | (refine gwC ?_ ?_ <;> (intro hb; first | (cases hb; done) | skip)))
    refine ⟨.inr rfl, by simp [Tryd.results34, spV, addB, hm16, hm24], keep_of G0F (fun p hp => by
        have hpb := hT.ok.big p hp
        have hm9 : p.1 ∈ 280 :: 281 :: keys L := List.mem_cons_of_mem _ (List.mem_cons_of_mem _ (mem_keys.2 ⟨p, hp, rfl⟩))
        simp (disch := omega) only [eIn hm9, upd_other, hpL_cons, hpL_nil, if_neg, updL]) (fun k hk => by
        have hm9 : k ∉ 280 :: 281 :: keys L := fun hm9 => by
          rcases List.mem_cons.1 hm9 with rfl | hm9
          · omega
          · rcases List.mem_cons.1 hm9 with rfl | hm9
            · omega
            · obtain ⟨p, hp, rfl⟩ := mem_keys.1 hm9
              have := (hT.ok.big p hp).1
              omega
        simp (disch := omega) only [eNi hm9, upd_other, hpL_cons, hpL_nil, if_neg, updL, hLow])⟩
theorem heapK_less (t a : Int) {b nk : Nat} {hp : Hp} {K : Eff → Prop} (hb : 100 ≤ b) (h1 : hp b = some (wb t)) (hK : K ((Res.ret (wd (t - a)) []).eff [b])) :
    heapK Tryd.prog G0 35 #[Value.agg #[.int .u64 (wi (a) 0), .int .u64 (wi (a) 1), .int .u64 (wi (a) 2), .int .u64 (wi (a) 3)], .pointer (some ⟨b, 0, none⟩)] hp nk K :=
  heapK_mv (eless_fun t a) G0F (B := 200) ⟨by simp, by simp [keys], by simp [wb, ids_lit, idsF, ids0]⟩ (fun k => if k = 100 then b else k) (fun k hk => if_neg (by omega)) (by simp [ren, renA, renF, ren0]) (by simp) (by simp [wb, Blk.rn, renF, ren0, hb, h1]) (by simp [keys]) (by simp [keys]) hK
set_option maxRecDepth 8000 in
set_option maxHeartbeats 4000000 in
theorem eEnergy_fit (L : List (Nat × Blk)) (ks : Nat) (bm bs : Blk) (hT : LTwo G0 L ks bm bs) (off n cap off2 cap2 : Nat) (fm fs : Nat → Int) (hm : MB bm off n fm) (hSb : SB bs off2 n fs) (hcap : n ≤ cap) (hcap2 : n ≤ cap2) (g bx tp nr md st : Int) (hs : i64 st)
    (hok : cfOk n fm g bx tp nr md = true) (hrt : rightB st fs n = true) (hz : potZ fs n = 0) :
    Fun Tryd.prog G0 15 #[cfV (.slice (some ⟨100, off, none⟩) n cap) g bx tp nr md, .agg #[.int .i64 st, .slice (some ⟨ks, off2, none⟩) n cap2]] (hpL G0 L) (keys L) (.ret (.tuple #[spV (kinV fm fs n - potHi g fm fs n) (kinV fm fs n - potLo g fm fs n), .int .i64 0]) []) := by
  refine fun_ofL (B := 200) G0F Tryd.func15 rfl Tryd.call15 hT.ok ?_ (flatV_ids (by simp [spV])) (by simp) (by simp) (by simp [Tryd.ntmps15]) (by omega) ?_
  · simp [idsV, idsA, idsF, ids0, hT.ia, hT.ib, cfV]
  intro C hC hC0 hY
  have hA := hT.a
  have hS := hT.s
  have hne := hT.ne
  have hLow := hT.low
  have hks := hT.k1
  have hks2 := hT.k2
  have hpo := epot_fit L ks bm bs hT off n cap off2 cap2 fm fs hm hSb hcap2 g bx tp nr md st hs hok hrt hz
  have hki := ekin_L L ks bm bs hT off n cap off2 n cap2 fm fs hm hSb hcap hcap2 g bx tp nr md st hs
  unfold kinW kinE at hki
  rw [fitB_iff.2 ⟨rfl, hok, hrt⟩, if_pos rfl, if_pos rfl] at hki
  unfold cfV spV at hpo
  unfold cfV at hki ⊢
  generalize kinV fm fs n = T at *
  generalize potLo g fm fs n = lo at *
  generalize potHi g fm fs n = hi at *
  repeat' (first | refine gwS ?_ | simp only [wN, wM, Nat.reduceAdd, Nat.reduceMul] | ((first | refine gwR [34, 18, 35] ?_ | refine gwD [34, 18, 35] ?_); intro Q hQ hP; simp [hC, hY, hA, hS, hne, wi_zero]; (repeat ((first | (refine heapK_L hpo hT.ok (by (intro p hp; have hpb := hT.ok.big p hp; (try dsimp only); simp (disch := omega) only [addB, upd_other, hpL_cons, hpL_nil, if_neg, updL, List.cons_append, List.nil_append]; first | exact hT.mem p hp | exact cL p hp)) ?_) | (refine heapK_L hki hT.ok (by (intro p hp; have hpb := hT.ok.big p hp; (try dsimp only); simp (disch := omega) only [addB, upd_other, hpL_cons, hpL_nil, if_neg, updL, List.cons_append, List.nil_append]; first | exact hT.mem p hp | exact cL p hp)) ?_) | (refine heapK_less T hi (by simp) ?_ ?_; focus (simp [wb]; done)) | (refine heapK_less T lo (by simp) ?_ ?_; focus (simp [wb]; done))); try simp [hC, hY, hA, hS, hne, wi_zero])); (first | refine hQ _ _ _ _ (by kernel_rfl) ?_ | refine hP _ _ (by kernel_rfl) fun _ => ?_); clear hQ hP Q) | refine gwB ?_ | refine gwT ?_ | refine gwK ?_ | refine gwE ?_ | refine gwG ?_ | refine gwL ?_ | simp only [blockG_exit] | (refine gwC ?_ ?_ <;> (intro hb; first | (cases hb; done) | skip)))
  refine ⟨.inr rfl, by simp [Tryd.results15, spV], keep_of G0F (by (intro p hp; have hpb := hT.ok.big p hp; first | rfl | (simp (disch := omega) only [addB, upd_other, hpL_cons, hpL_nil, if_neg, updL, List.cons_append, List.nil_append] <;> done))) (by (intro k hk; first | exact hLow k hk | (simp (disch := omega) only [hLow, addB, List.mem_cons, List.not_mem_nil, or_false, upd_other, hpL_cons, hpL_nil, if_neg, updL, List.cons_append, List.nil_append] <;> done)))⟩
def wkM : Blk := ⟨#[.int .i64 1, .int .i64 2], .ty 3⟩
def wkS : Blk := ⟨#[.int .i64 0, .int .i64 0, .int .i64 0, .int .i64 1, .int .i64 2, .int .i64 2, .int .i64 0, .int .i64 0, .int .i64 6, .int .i64 0, .int .i64 0, .int .i64 0], .ty 46⟩
def wkm (j : Nat) : Int := if j = 0 then 1 else 2
def wkb (j : Nat) : Int := if j = 3 then 1 else if j = 4 then 2 else if j = 5 then 2 else if j = 8 then 6 else 0
theorem wkM_fx : wkM.fx := fun x hx => by simp [wkM] at hx; rcases hx with rfl | rfl <;> rfl
theorem wkS_fx : wkS.fx := fun x hx => by simp [wkS] at hx; rcases hx with rfl | rfl | rfl | rfl | rfl | rfl <;> rfl
theorem wkM_mb : MB wkM 0 2 wkm := ⟨fun j hj => by
  have : j = 0 ∨ j = 1 := by omega
  rcases this with rfl | rfl <;> rfl, wkM_fx, fun j hj => by
  have : j = 0 ∨ j = 1 := by omega
  rcases this with rfl | rfl <;> decide, by omega⟩
theorem wkS_sb : SB wkS 0 2 wkb := ⟨fun j hj => by
  have : j = 0 ∨ j = 1 ∨ j = 2 ∨ j = 3 ∨ j = 4 ∨ j = 5 ∨ j = 6 ∨ j = 7 ∨ j = 8 ∨ j = 9 ∨ j = 10 ∨ j = 11 := by omega
  rcases this with rfl | rfl | rfl | rfl | rfl | rfl | rfl | rfl | rfl | rfl | rfl | rfl <;> rfl, wkS_fx, fun j hj => by
  have : j = 0 ∨ j = 1 ∨ j = 2 ∨ j = 3 ∨ j = 4 ∨ j = 5 ∨ j = 6 ∨ j = 7 ∨ j = 8 ∨ j = 9 ∨ j = 10 ∨ j = 11 := by omega
  rcases this with rfl | rfl | rfl | rfl | rfl | rfl | rfl | rfl | rfl | rfl | rfl | rfl <;> decide, by omega⟩
theorem wk_plo {N s r : Int} (h0 : 0 ≤ r) (h1 : r * r ≤ N / s) (h2 : N / s < (r + 1) * (r + 1)) : plo N s = r := by
  unfold plo
  exact isq_unique h0 h1 h2
theorem wk_1 : enLo 1 1 1 4 = 524288 ∧ enHi 1 1 1 4 = 524288 := by
  have e : enLo 1 1 1 4 = 524288 := wk_plo (by decide) (by decide) (by decide)
  refine ⟨e, ?_⟩
  rw [en_hi_eq, e]
  decide
theorem wk_2 : enLo 1 1 1 2 = 741455 ∧ enHi 1 1 1 2 = 741456 := by
  have e : enLo 1 1 1 2 = 741455 := wk_plo (by decide) (by decide) (by decide)
  refine ⟨e, ?_⟩
  rw [en_hi_eq, e]
  decide
theorem wk_3 : enLo 3 2 1 36 = 1048576 ∧ enHi 3 2 1 36 = 1048576 := by
  have e : enLo 3 2 1 36 = 1048576 := wk_plo (by decide) (by decide) (by decide)
  refine ⟨e, ?_⟩
  rw [en_hi_eq, e]
  decide
theorem wk_sq : esqF wkb 1 0 = 36 := by decide
theorem wk_lo : potLo 3 wkm wkb 2 = 1048576 := by
  unfold potLo
  simp only [sum2, sumN, wk_sq, show wkm 1 = 2 from rfl, show wkm 0 = 1 from rfl, wk_3.1]
  decide
theorem wk_hi : potHi 3 wkm wkb 2 = 1048576 := by
  unfold potHi
  simp only [sum2, sumN, wk_sq, show wkm 1 = 2 from rfl, show wkm 0 = 1 from rfl, wk_3.2]
  decide
theorem wk_z : potZ wkb 2 = 0 := by
  unfold potZ
  simp only [sum2, sumN, wk_sq]
  decide
theorem wk_k : kinV wkm wkb 2 = 4718592 := by decide
theorem wk_ok : cfOk 2 wkm 3 1000 1000 1 0 = true := by decide
theorem wk_rt : rightB 0 wkb 2 = true := by decide
theorem wkM_rn {ρ : Nat → Nat} : wkM.rn ρ = wkM := Blk.fx_rn wkM_fx ρ
theorem wkS_rn {ρ : Nat → Nat} : wkS.rn ρ = wkS := Blk.fx_rn wkS_fx ρ
theorem epair_zat {g m w : Int} (h : EIn g m w 0) (K : Value → Prop) : callK Tryd.prog G0 7 #[.int .i64 g, .int .i64 m, .int .i64 w, .int .i64 0] K ↔ K (.tuple #[.int .i64 0, .int .i64 0, .int .i64 30]) := callK_iff G0W (by kernel_rfl) (epair_z h rfl)
theorem epair_bat {g m w q : Int} (h : ¬ EIn g m w q) (K : Value → Prop) : callK Tryd.prog G0 7 #[.int .i64 g, .int .i64 m, .int .i64 w, .int .i64 q] K ↔ K (.tuple #[.int .i64 0, .int .i64 0, .int .i64 2]) := callK_iff G0W (by kernel_rfl) (epair_bad h)
theorem wk_w (K : Value → Prop) : callK Tryd.prog G0 19 #[spV 3670016 3670016] K ↔ K (.tuple #[.int .i64 0, .bool true]) := callK_iff G0W (by kernel_rfl) (ewidth_small 3670016 3670016 (i64_wr (by decide)) (i64_wr (by decide)) (by decide) (by decide))
theorem wk_h (K : Value → Prop) : callK Tryd.prog G0 21 #[spV 3670016 3670016, wd 3670016] K ↔ K (.bool true) := by
  have e : holdB 3670016 3670016 3670016 = true := by decide
  rw [← e]
  exact callK_iff G0W (by kernel_rfl) (eholds_ret 3670016 3670016 3670016)
theorem wk_n (K : Value → Prop) : callK Tryd.prog G0 21 #[spV 3670016 3670016, wd 0] K ↔ K (.bool false) := by
  have e : holdB 3670016 3670016 0 = false := by decide
  rw [← e]
  exact callK_iff G0W (by kernel_rfl) (eholds_ret 3670016 3670016 0)
set_option maxRecDepth 100000 in
set_option maxHeartbeats 4000000 in
theorem wakes22_ret : Ret Tryd.prog G0 6 #[] (.bool true) := by
  refine ret_of G0F Tryd.func6 rfl Tryd.call6 rfl (by simp) (by simp [Tryd.ntmps6]) ?_
  intro C hC hC0 hY
  have p1 := epair_at (g := 1) (m := 1) (w := 1) (q := 4) (by constructor <;> decide) (by decide) wk_1.1 wk_1.2
  have p2 := epair_at (g := 1) (m := 1) (w := 1) (q := 2) (by constructor <;> decide) (by decide) wk_2.1 wk_2.2
  have p3 := epair_zat (g := 1) (m := 1) (w := 1) (by constructor <;> decide)
  have p4 := epair_bat (g := 0) (m := 1) (w := 1) (q := 0) (fun h => absurd h.g0 (by decide))
  have hT := LTwo.two (G := G0) wkM_fx wkS_fx
  have hki := ekin_L _ _ wkM wkS hT 0 2 2 0 2 2 wkm wkb wkM_mb wkS_sb (by omega) (by omega) 3 1000 1000 1 0 0 (by decide)
  have hen := eEnergy_fit _ _ wkM wkS hT 0 2 2 0 2 wkm wkb wkM_mb wkS_sb (by omega) (by omega) 3 1000 1000 1 0 0 (by decide) wk_ok wk_rt wk_z
  unfold kinW kinE at hki
  rw [fitB_iff.2 ⟨rfl, wk_ok, wk_rt⟩, if_pos rfl, if_pos rfl, wk_k] at hki
  rw [wk_k, wk_lo, wk_hi] at hen
  unfold cfV spV at hen
  unfold cfV at hki
  have ww := wk_w
  have wh := wk_h
  have wn := wk_n
  unfold spV at ww wh wn
  unfold wd at wh wn
  simp only [wi_zero] at wn
  have o1 : i64 4718592 := by decide
  have o2 : i64 3670016 := by decide
  repeat' (first | refine gwS ?_ | simp only [wN, wM, Nat.reduceAdd, Nat.reduceMul] | ((first | refine gwR [18, 15] ?_ | refine gwD [18, 15] ?_); intro Q hQ hP; simp [hC, hY, p1, p2, p3, p4, wi_zero, ww, wh, wn, o1, o2]; (repeat ((first | (refine heapK_mv hki G0F hT.ok (fun k => if k = 100 then 464 else if k = 108 then 528 else k) (fun k hk => (if_neg (by omega)).trans (if_neg (by omega))) ?_ (by simp) (by simp [wkM_rn, wkS_rn]; simp [wkM, wkS]; kernel_rfl) (by simp [keys]) (by simp [keys]; rfl) ?_; focus (simp [ren, renA, renF, ren0]; done)) | (refine heapK_mv hen G0F hT.ok (fun k => if k = 100 then 464 else if k = 108 then 528 else k) (fun k hk => (if_neg (by omega)).trans (if_neg (by omega))) ?_ (by simp) (by simp [wkM_rn, wkS_rn]; simp [wkM, wkS]; kernel_rfl) (by simp [keys]) (by simp [keys]; rfl) ?_; focus (simp [ren, renA, renF, ren0]; done))); try simp [hC, hY, p1, p2, p3, p4, wi_zero, ww, wh, wn, o1, o2])); (first | refine hQ _ _ _ _ (by kernel_rfl) ?_ | refine hP _ _ (by kernel_rfl) fun _ => ?_); clear hQ hP Q) | refine gwB ?_ | refine gwT ?_ | refine gwK ?_ | refine gwE ?_ | refine gwG ?_ | refine gwL ?_ | simp only [blockG_exit] | (refine gwC ?_ ?_ <;> (intro hb; first | (cases hb; done) | skip)))
  refine ⟨.inr trivial, ?_⟩
  simp [Tryd.results6]
theorem EnergyHolds_ret (g m w q : Int) (_ : i64 g) (_ : i64 m) (_ : i64 w) (_ : i64 q) : Ret Tryd.prog G0 3 #[.int .i64 g, .int .i64 m, .int .i64 w, .int .i64 q] (.bool true) := EnergyHolds_law wakes22_ret g m w q
theorem EnergyFalls_ret (g m w q e : Int) (_ : i64 g) (_ : i64 m) (_ : i64 w) (_ : i64 q) (_ : i64 e) : Ret Tryd.prog G0 5 #[.int .i64 g, .int .i64 m, .int .i64 w, .int .i64 q, .int .i64 e] (.bool true) := EnergyFalls_law wakes22_ret g m w q e
end Go.Gy
namespace Go.Gy
set_option linter.unusedSimpArgs false
set_option linter.unusedVariables false
set_option maxRecDepth 100000
open Go Go.RowKit Go.Proofs Go.ChangeShapes Go.WideShapes Go.ChangeAt

section
variable {H : Type} {enc : TypeId × Value → H} {P : Program}
theorem post_of_below {f : Func} {s : ChangeSpec} {apart fresh handsOn again : Bool} {W W' : World} {args : Array Value} {v : Value} {ds gs : List (DataW H)} {before pa pv : List MemPlace}
    (hW : DataW.Whole enc P f.params.toList s.vars apart W args.toList ds gs before)
    (hres : ∀ (b : Nat) (sp : Nat → Bool) (hd : Bool), DataW.TrodAll enc P W' b sp hd f.resultTypes.toList (v.resultList f.resultTypes.size) (s.fn H (ds ++ gs)).results [])
    (hargs : ∀ sp : Nat → Bool, (∀ p ∈ before, sp p.block = true) → DataW.TrodAll enc P W' 0 sp true f.params.toList args.toList (s.fn H (ds ++ gs)).args pa)
    (hvars : ∀ sp : Nat → Bool, (∀ p ∈ before, sp p.block = true) → DataW.TrodVars enc P W' sp s.vars (s.fn H (ds ++ gs)).vars pv)
    (hps : before = pa ++ pv) (hb : Below W.heap.size W W')
    (hok : ∀ (j : Nat) (t : TypeId) (r : Value), f.resultTypes[j]? = some t → (v.resultList f.resultTypes.size)[j]? = some r → Value.okWide P W' .any 0 t r) :
    s.post enc P f apart fresh handsOn again W args v W' := by
  have hlt : ∀ p ∈ before, p.block < W.heap.size := fun p hp => hW.lt p hp
  have hold : ∀ p ∈ before, (fun b => decide (b < W.heap.size)) p.block = true := fun p hp => by simpa using hlt p hp
  refine ⟨ds, gs, before, [], pa, pv, hW, hres _ _ _, hargs _ hold, hvars _ hold, World.keptBut_mono (fun p hp => ⟨hp, ?_⟩) (hb.frame (· ∈ before)), fun _ => ?_⟩
  · rw [hps, List.mem_append] at hp
    exact Or.inr hp
  · obtain ⟨_, _, _, _, _, hz, hn⟩ := hW
    refine ⟨hok, _, _, ([] ++ pa) ++ pv, ⟨[] ++ pa, pv, trodAll_append (hargs _ (fun _ _ => rfl)) (hres _ _ _), hvars _ (fun _ _ => rfl), rfl, ?_, ?_⟩, ?_⟩
    · intro b off hp
      have hin : MemPlace.cell b off ∈ before := by rw [hps]; simpa using hp
      rw [hb.frozen (hlt _ hin)]
      exact hz b off hin
    · intro ha
      have := hn ha
      rw [hps] at this
      simpa using this
    · intro p hp _
      rw [hps]
      simpa using hp
end

theorem cells_u64 : Tryd.prog.cellsOf 26 = 1 := by kernel_rfl
theorem cells_wide : Tryd.prog.cellsOf 28 = 4 := by kernel_rfl
theorem mm_i64 : IntKind.i64.min = -9223372036854775808 ∧ IntKind.i64.max = 9223372036854775807 := by decide
theorem wf_i64 {z : Int} (h : (Lit.int .i64 z).wf = true) : i64 z := by
  simp only [Lit.wf, Bool.and_eq_true, decide_eq_true_eq, mm_i64.1, mm_i64.2] at h; unfold i64; omega
section
variable {H : Type} {enc : TypeId × Value → H} {w : World}
end

theorem own : ownKnob Tryd.prog.godebug = none := by kernel_rfl
theorem heap_of_var {P : Program} {W : World} {name : String} {g : Nat} {cs : Array Value} {z : Array Value} {T : TypeId} (hg : P.globalNamed name = some g) (hlt : g < P.globals.size) (hrow : ((begin P (fun _ _ => 0) default).world.heap[g]?).bind Obj.row? = some (z, T))
    (hS : W.ShapedOpen P) (hv : W.var? P name = some cs) : W.heap[g]? = some (.cells cs T (0, 0)) := by
  obtain ⟨c, h1, _⟩ := hS.1 g z T hlt hrow
  unfold World.var? at hv
  rw [hg] at hv
  simp only [Option.bind_some, h1, Option.some.injEq] at hv
  rw [h1, hv]
theorem gLeast : Tryd.prog.globalNamed "gyre/quot.least" = some 1 := by kernel_rfl
theorem gLeastType : (Tryd.prog.globals[1]?).map (·.type) = some 28 := by kernel_rfl
theorem gLeastRow : ((begin Tryd.prog (fun _ _ => 0) default).world.heap[1]?).bind Obj.row? = some (#[.int .u64 0, .int .u64 0, .int .u64 0, .int .u64 0], 28) := by kernel_rfl
theorem least_of {W : World} {rest : List (String × DataW Unit)} (h : laidMet Tryd.prog (("gyre/quot.least", Proofs.YtfedlkjhfnlnbaaDoor.Rows.laid_gyre_quot_least) :: rest) W) : W.var? Tryd.prog "gyre/quot.least" = some lsB.c :=
  Lib.tabIs_of_head (zs := [0, 0, 0, 9223372036854775808]) gLeast gLeastType Tryd.underlying28 Tryd.underlying26 cells_u64 cells_wide h
theorem cells_of_strs {H : Type} {enc : TypeId × Value → H} {P : Program} {w : World} {base : Nat} {sp : Nat → Bool} {held : Bool} {fuel : Nat} {t e : TypeId} {n : Nat} {cs : List Value} {ss : List (List UInt8)} {p : List MemPlace}
    (ht : P.underlying t = some (.array n e)) (he : P.underlying e = some .string) (hce : P.cellsOf e = 1) (hct : P.cellsOf t = n)
    (h : DataW.trod enc P w base sp held fuel t cs = some (.agg (ss.map fun s => .lit (.string s)), p)) : cs = ss.map fun s => Value.string ⟨s.toArray⟩ := by
  cases fuel with
  | zero => simp [DataW.trod] at h
  | succ fuel =>
    simp only [DataW.trod, ht, hce, hct, Nat.mul_one] at h
    split at h
    · rename_i hl
      obtain ⟨xs, hm, hx⟩ := Option.map_eq_some_iff.1 h
      have hxs : xs.map (·.1) = ss.map fun s => (DataW.lit (.string s) : DataW H) := by
        have := congrArg Prod.fst hx
        simpa using this
      have hxl : xs.length = n := by simpa using Lib.mapM_length hm
      have hzl : ss.length = n := by
        have := congrArg List.length hxs
        simp at this
        omega
      apply List.ext_getElem?
      intro i
      by_cases hi : i < n
      · obtain ⟨b, hb, hf⟩ := Lib.mapM_at hm i i (by simp [hi])
        obtain ⟨s, hc, rfl, _⟩ := DataW.trod_string he hf
        have h1 : cs[i]? = some (.string s) := by
          have := congrArg (·[0]?) hc
          simpa [List.getElem?_take, List.getElem?_drop] using this
        have h2 : (xs.map (·.1))[i]? = some (DataW.lit (.string s.data.toList) : DataW H) := by simp [hb]
        rw [hxs] at h2
        simp only [List.getElem?_map, Option.map_eq_some_iff, DataW.lit.injEq, Lit.string.injEq] at h2
        obtain ⟨z', hz', rfl⟩ := h2
        simp [h1, hz']
      · rw [List.getElem?_eq_none (by omega), List.getElem?_eq_none (by simp; omega)]
    · cases h
theorem gNames : Tryd.prog.globalNamed "gyre/conf.names" = some 0 := by kernel_rfl
theorem gNamesType : (Tryd.prog.globals[0]?).map (·.type) = some 123 := by kernel_rfl
theorem cells_str : Tryd.prog.cellsOf 9 = 1 := by kernel_rfl
theorem cells_names : Tryd.prog.cellsOf 123 = 7 := by kernel_rfl
theorem gNamesRow : ((begin Tryd.prog (fun _ _ => 0) default).world.heap[0]?).bind Obj.row? = some (#[.string ⟨#[]⟩, .string ⟨#[]⟩, .string ⟨#[]⟩, .string ⟨#[]⟩, .string ⟨#[]⟩, .string ⟨#[]⟩, .string ⟨#[]⟩], 123) := by kernel_rfl
theorem names_of {W : World} {rest : List (String × DataW Unit)} (h : laidMet Tryd.prog (("gyre/conf.names", Proofs.YtfedlkjhfnlnbaaDoor.Rows.laid_gyre_conf_names) :: rest) W) : W.var? Tryd.prog "gyre/conf.names" = some cnB.c := by
  obtain ⟨ps, ⟨g', t', cs, fuel, p, q, hg', ht', hvar, hd, _, _⟩, _⟩ := h
  obtain rfl := Option.some.inj (gNames.symm.trans hg')
  obtain rfl := Option.some.inj (gNamesType.symm.trans ht')
  have h9 := cells_of_strs (ss := [[98, 111, 100, 105, 101, 115], [109, 97, 115, 115], [99, 111, 110, 115, 116, 97, 110, 116], [98, 111, 120], [116, 111, 112], [110, 101, 97, 114], [109, 101, 116, 104, 111, 100]]) Tryd.underlying123 Tryd.underlying9 cells_str cells_names hd
  rw [hvar]
  congr 1
  exact Array.ext' h9
theorem gok_both {W : World} (hS : W.ShapedOpen Tryd.prog) (h : laidMet Tryd.prog [("gyre/conf.names", Proofs.YtfedlkjhfnlnbaaDoor.Rows.laid_gyre_conf_names), ("gyre/quot.least", Proofs.YtfedlkjhfnlnbaaDoor.Rows.laid_gyre_quot_least)] W) : GOK G0 W := fun k b hk => by
  have h9 := G0_mem hk
  simp [G0L] at h9
  rcases h9 with ⟨rfl, rfl⟩ | ⟨rfl, rfl⟩
  · exact heap_of_var gLeast (of_decide_eq_true (by kernel_rfl)) gLeastRow hS (least_of (laidMet.tail h))
  · exact heap_of_var gNames (of_decide_eq_true (by kernel_rfl)) gNamesRow hS (names_of h)
end Go.Gy
