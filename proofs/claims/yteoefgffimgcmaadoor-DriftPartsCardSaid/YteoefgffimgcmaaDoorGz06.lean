/-
  Lemmas of this claim, in their order (GyWM, GyWN, GyH).
  Conditions: those of each theorem.
-/
import Derived.Test.YteoefgffimgcmaaDoorGz05
import Derived.Test.YteoefgffimgcmaaDoorCards
import Derived.Test.YteoefgffimgcmaaDoorTie
import Derived.WalkKit
import Derived.ProofKit
import Derived.OpenShut
import Derived.Below
import Derived.ChangeSame
import Derived.Deep.DeepHandedRow
import Derived.Lib.LaidTab
namespace Go.Gy
set_option linter.unusedSimpArgs false
set_option linter.unusedVariables false
open Go Go.RowKit Go.Proofs
theorem driftR_rr {nk nk' n : Nat} {st E : Int} {F : Nat → Int} {ρ : Nat → Nat} (h : ρ nk = nk') : RR ρ (DriftR nk st n F E) = DriftR nk' st n F E := by
  funext v ns
  apply propext
  constructor
  · rintro ⟨v0, ns0, ⟨w, ⟨c, M, g, h1, h2, h3, rfl, rfl⟩, rfl⟩, rfl, rfl⟩
    exact ⟨_, ⟨c, M, g, h1, h2, h3, rfl, by simp [rnL, fa_rn, h]⟩, by simp [ren, renA, renF, ren0, h]⟩
  · rintro ⟨w, ⟨c, M, g, h1, h2, h3, rfl, rfl⟩, rfl⟩
    exact ⟨_, _, ⟨_, ⟨c, M, g, h1, h2, h3, rfl, rfl⟩, rfl⟩, by simp [ren, renA, renF, ren0, h], by simp [rnL, fa_rn, h]⟩
theorem driftR_key {nk n : Nat} {st E : Int} {F : Nat → Int} {v : Value} {ns : List (Nat × Blk)} (h : DriftR nk st n F E v ns) : ∀ k ∈ keys ns, k = nk := by
  obtain ⟨w, ⟨c, M, g, h1, h2, h3, rfl, rfl⟩, rfl⟩ := h
  simp [keys]
/-- Block 100 stands at nb, a new one's name is nk. -/
def nn2 (nb nk k : Nat) : Nat := if k = 100 then nb else if k = 1000 then nk else k
theorem nn2_low {nb nk : Nat} (k : Nat) (hk : k < 100) : nn2 nb nk k = k := by
  unfold nn2
  rw [if_neg (by omega), if_neg (by omega)]
theorem nn2_b {nb nk : Nat} : nn2 nb nk 100 = nb := by simp [nn2]
theorem nn2_k {nb nk : Nat} : nn2 nb nk 1000 = nk := by simp [nn2]
theorem at_low {nb : Nat} {b : Blk} (h : 100 ≤ nb) (k : Nat) (hk : k < 100) : hpL G0 [(nb, b)] k = G0 k := by
  simp only [hpL_cons, hpL_nil]
  rw [if_neg (by omega)]
theorem drift_at (nb nk : Nat) (hb1 : 100 ≤ nb) (hk1 : 100 ≤ nk) (hbk : nb ≠ nk) (b : Blk) (off n cap : Nat) (f : Nat → Int) (h : SB b off n f) (hcap : n ≤ cap) (st p q : Int) (hs : i64 st) (hp : i64 p) (hq : i64 q) :
    FunS Tryd.prog G0 21 #[.agg #[.int .i64 st, .slice (some ⟨nb, off, none⟩) n cap], .int .i64 p, .int .i64 q] (hpL G0 [(nb, b)]) [nb] (DriftR nk st n (drF st f n p q) (drE st f n p q)) := by
  have hr := fun ρ => Blk.fx_rn h.fx ρ
  refine (drift_fun b off n cap f h hcap st p q hs hp hq).mvL G0F (oneL_ok h.fx) (nn2 nb nk) nn2_low (by simp [ren, renA, renF, ren0, nn2_b]) (by simp [keys, nn2_b]) (driftR_rr nn2_k) (at_low hb1) (by simp [nn2_b, hr, hb1]) (by simp [keys]) (fun v ns hV k hk => ?_) (fun v ns hV k hk l hl _ => by rw [driftR_key hV k hk, driftR_key hV l hl])
  rw [driftR_key hV k hk, nn2_k]
  simp
  exact ⟨hk1, fun e => hbk e.symm⟩
theorem waysR_rr {nk nk' n : Nat} {G : Nat → Int} {ok : Bool} {ρ : Nat → Nat} (h : ρ nk = nk') : RR ρ (WaysR nk n G ok) = WaysR nk' n G ok := by
  funext v ns
  apply propext
  constructor
  · rintro ⟨v0, ns0, ⟨w, hV, rfl⟩, rfl, rfl⟩
    rcases hV with ⟨h1, rfl, rfl⟩ | ⟨c, g, h1, h2, h3, rfl, rfl⟩
    · exact ⟨_, .inl ⟨h1, rfl, by simp [rnL]⟩, by simp [ren, renA, renF, ren0]⟩
    · exact ⟨_, .inr ⟨c, g, h1, h2, h3, rfl, by simp [rnL, fa_rn, h]⟩, by simp [ren, renA, renF, ren0, h]⟩
  · rintro ⟨w, hV, rfl⟩
    rcases hV with ⟨h1, rfl, rfl⟩ | ⟨c, g, h1, h2, h3, rfl, rfl⟩
    · exact ⟨_, _, ⟨_, .inl ⟨h1, rfl, rfl⟩, rfl⟩, by simp [ren, renA, renF, ren0], by simp [rnL]⟩
    · exact ⟨_, _, ⟨_, .inr ⟨c, g, h1, h2, h3, rfl, rfl⟩, rfl⟩, by simp [ren, renA, renF, ren0, h], by simp [rnL, fa_rn, h]⟩
theorem dWays_at (nb nk : Nat) (hb1 : 100 ≤ nb) (hk1 : 100 ≤ nk) (hbk : nb ≠ nk) (b : Blk) (off n cap : Nat) (f : Nat → Int) (h : SB b off n f) (st p q : Int) (hs : i64 st) (hp : i64 p) (hq : i64 q) :
    FunS Tryd.prog G0 19 #[.agg #[.int .i64 st, .slice (some ⟨nb, off, none⟩) n cap], .int .i64 p, .int .i64 q] (hpL G0 [(nb, b)]) [nb] (WaysR nk n (vecsG f p q) (rightB st f n && partB p q)) := by
  have hr := fun ρ => Blk.fx_rn h.fx ρ
  refine (dWays_fun b off n cap f h st p q hs hp hq).mvL G0F (oneL_ok h.fx) (nn2 nb nk) nn2_low (by simp [ren, renA, renF, ren0, nn2_b]) (by simp [keys, nn2_b]) (waysR_rr nn2_k) (at_low hb1) (by simp [nn2_b, hr, hb1]) (by simp [keys]) (fun v ns hV k hk => ?_) (fun v ns hV k hk l hl _ => ?_)
  · obtain ⟨w, hV, rfl⟩ := hV
    rw [vecR_key hV k hk, nn2_k]
    simp
    exact ⟨hk1, fun e => hbk e.symm⟩
  · obtain ⟨w, hV, rfl⟩ := hV
    rw [vecR_key hV k hk, vecR_key hV l hl]
/-! wakes -/
def wkL (x : Int) : Nat → Int := fun j => [x, 2, 3, 5, -5, 0].getD j 0
def wkB (x : Int) : Blk := ⟨#[.int .i64 x, .int .i64 2, .int .i64 3, .int .i64 5, .int .i64 (-5), .int .i64 0], .ty 44⟩
theorem wkB_eq (x : Int) : wkB x = ⟨fa 6 .i64 (wkL x), .ty 44⟩ := by rw [fa_6]; rfl
theorem wkSB (x : Int) (hx : i64 x) : SB (wkB x) 0 1 (wkL x) := by
  rw [wkB_eq]
  refine ⟨rdI_fa _ _ _, fa_fx _ _ _, fun j hj => ?_, by omega⟩
  obtain rfl | rfl | rfl | rfl | rfl | rfl : j = 0 ∨ j = 1 ∨ j = 2 ∨ j = 3 ∨ j = 4 ∨ j = 5 := by omega
  · exact hx
  all_goals (simp [wkL, i64])
theorem wkE0 : drE 4 (wkL 1) 1 1 2 = 0 := by decide +kernel
theorem wkE1 : drE 4 (wkL 1) 1 1 0 = 2 := by decide +kernel
theorem wkE2 : drE 4 (wkL 1048576) 1 1 2 = 20 := by decide +kernel
theorem wkF0 : drF 4 (wkL 1) 1 1 2 0 = 4 ∧ drF 4 (wkL 1) 1 1 2 1 = -1 ∧ drF 4 (wkL 1) 1 1 2 2 = 3 := by decide +kernel
theorem wkW : (rightB 4 (wkL 1048576) 1 && partB (-1) 5) = true := by decide +kernel
theorem wkG : vecsG (wkL 1048576) (-1) 5 0 = -1 ∧ vecsG (wkL 1048576) (-1) 5 1 = 1 ∧ vecsG (wkL 1048576) (-1) 5 2 = 0 := by decide +kernel
theorem wk1 : d1V 3 1 2 = 2 ∧ d1E 3 1 2 = 0 ∧ d1V (-3) 1 2 = -2 ∧ d1E (-3) 1 2 = 0 := by decide +kernel
theorem wkP : partB (-2097152) 1 = true ∧ partB 1 (-1) = false := by decide +kernel
theorem i64_n {z : Int} (h : -9223372036854775808 ≤ z ∧ z ≤ 9223372036854775807) : i64 z := ⟨by omega, by omega⟩
set_option maxRecDepth 8000 in
set_option maxHeartbeats 4000000 in
theorem wakes15_ret : Ret Tryd.prog G0 12 #[] (.bool true) := by
  refine ret_of G0F Tryd.func12 rfl Tryd.call12 rfl (by simp) (by simp [Tryd.ntmps12]) ?_
  intro C hC hC0 hY
  have j0 : i64 3 := i64_n (by omega)
  have j1 : i64 (-3) := i64_n (by omega)
  have j2 : i64 1 := i64_n (by omega)
  have j3 : i64 2 := i64_n (by omega)
  have j4 : i64 4 := i64_n (by omega)
  have j5 : i64 0 := i64_n (by omega)
  have j6 : i64 (-1) := i64_n (by omega)
  have j7 : i64 5 := i64_n (by omega)
  have j8 : i64 (-2097152) := i64_n (by omega)
  obtain ⟨w0, w1, w2, w3⟩ := wk1
  repeat' (first | refine GW_seq ?_ | simp only [List.length_cons, List.length_nil, Nat.reduceAdd, Nat.reduceMul, wN] | ((first | refine GW_region' [] (by kernel_rfl) ?_ | refine GW_draw' [] follows (by kernel_rfl) (by kernel_rfl) ?_); intro Q hQ hP; simp [hC, hY, j0, j1, j2, j3, w0, w1, w2, w3]; (first | refine hQ _ _ _ _ ?_ | refine hQ _ _ _ _ (by kernel_rfl) ?_ | refine hP _ _ (fun _ => ?_) | refine hP _ _ (by kernel_rfl) (fun _ => ?_)); clear hQ hP Q) | refine GW_block ?_ | refine GW_ret ?_ | refine GW_skip ?_ | refine GW_exit ?_ | refine GW_goto ?_ | refine GW_label ?_ | simp only [blockG_exit] | (refine GW_cond (by simp; rfl) ?_ ?_ <;> (intro hb; first | (exfalso; exact absurd hb (by decide)) | skip)))
  have da := drift_at 328 368 (by omega) (by omega) (by omega) (wkB 1) 0 1 1 (wkL 1) (wkSB 1 j2) (Nat.le_refl _) 4 1 2 j4 j2 j3
  rw [wkE0] at da
  refine GW_list ?_
  simp only [Array.toList]
  refine GL_walk 1 [] rfl (by simp) (by kernel_rfl) ?_; intro q hq; simp [hC, hY]; refine hq _ _ _ _ ?_; clear hq q
  simp only [wT, List.length_cons, List.length_nil, Nat.reduceAdd]
  refine GL_callL (f := .func 21) (cap := #[]) hC da rfl (by simp) rfl rfl (by simp [okT]) (by simp [gev]) (by simp) (by simp [okX, junk]) (by simp [gev]) (by simp [wkB]) (by (intro k hk; first | rfl | (simp (disch := omega) only [addB, List.mem_cons, List.not_mem_nil, or_false, upd_other, hpL_cons, hpL_nil, if_neg, updL] <;> done))) ?_ ?_
  · intro v ns hV k hk
    rw [driftR_key hV k hk]
    omega
  rintro v ns ⟨w, ⟨ca, Ma, ga, k1a, k2a, k3a, rfl, rfl⟩, rfl⟩
  refine GL_walk 6 [] rfl (by simp) (by kernel_rfl) ?_; intro q hq; simp [hC, hY, putT, updL]; refine hq _ _ _ _ ?_; clear hq q
  simp only [wT, List.length_cons, List.length_nil, Nat.reduceAdd]
  refine GL_nil ?_
  repeat' (first | refine GW_seq ?_ | simp only [List.length_cons, List.length_nil, Nat.reduceAdd, Nat.reduceMul, wN] | ((first | refine GW_region' [] (by kernel_rfl) ?_ | refine GW_draw' [] follows (by kernel_rfl) (by kernel_rfl) ?_); intro Q hQ hP; simp [hC, hY]; (first | refine hQ _ _ _ _ ?_ | refine hQ _ _ _ _ (by kernel_rfl) ?_ | refine hP _ _ (fun _ => ?_) | refine hP _ _ (by kernel_rfl) (fun _ => ?_)); clear hQ hP Q) | refine GW_block ?_ | refine GW_ret ?_ | refine GW_skip ?_ | refine GW_exit ?_ | refine GW_goto ?_ | refine GW_label ?_ | simp only [blockG_exit] | (refine GW_cond (by simp; rfl) ?_ ?_ <;> (intro hb; first | (exfalso; exact absurd hb (by decide)) | skip)))
  have db := drift_at 328 432 (by omega) (by omega) (by omega) (wkB 1) 0 1 1 (wkL 1) (wkSB 1 j2) (Nat.le_refl _) 4 1 0 j4 j2 j5
  rw [wkE1] at db
  refine GW_list ?_
  simp only [Array.toList]
  refine GL_walk 1 [] rfl (by simp) (by kernel_rfl) ?_; intro q hq; simp [hC, hY]; refine hq _ _ _ _ ?_; clear hq q
  simp only [wT, List.length_cons, List.length_nil, Nat.reduceAdd]
  refine GL_callL (f := .func 21) (cap := #[]) hC db rfl (by simp) rfl rfl (by simp [okT]) (by simp [gev]) (by simp) (by simp [okX, junk]) (by simp [gev]) (by simp [wkB]) (by (intro k hk; first | rfl | (simp (disch := omega) only [addB, List.mem_cons, List.not_mem_nil, or_false, upd_other, hpL_cons, hpL_nil, if_neg, updL] <;> done))) ?_ ?_
  · intro v ns hV k hk
    rw [driftR_key hV k hk]
    omega
  rintro v ns ⟨w, ⟨cb, Mb, gb, k1b, k2b, k3b, rfl, rfl⟩, rfl⟩
  refine GL_walk 6 [] rfl (by simp) (by kernel_rfl) ?_; intro q hq; simp [hC, hY, putT, updL]; refine hq _ _ _ _ ?_; clear hq q
  simp only [wT, List.length_cons, List.length_nil, Nat.reduceAdd]
  refine GL_nil ?_
  repeat' (first | refine GW_seq ?_ | simp only [List.length_cons, List.length_nil, Nat.reduceAdd, Nat.reduceMul, wN] | ((first | refine GW_region' [] (by kernel_rfl) ?_ | refine GW_draw' [] follows (by kernel_rfl) (by kernel_rfl) ?_); intro Q hQ hP; simp [hC, hY]; (first | refine hQ _ _ _ _ ?_ | refine hQ _ _ _ _ (by kernel_rfl) ?_ | refine hP _ _ (fun _ => ?_) | refine hP _ _ (by kernel_rfl) (fun _ => ?_)); clear hQ hP Q) | refine GW_block ?_ | refine GW_ret ?_ | refine GW_skip ?_ | refine GW_exit ?_ | refine GW_goto ?_ | refine GW_label ?_ | simp only [blockG_exit] | (refine GW_cond (by simp; rfl) ?_ ?_ <;> (intro hb; first | (exfalso; exact absurd hb (by decide)) | skip)))
  have dc := drift_at 328 544 (by omega) (by omega) (by omega) (wkB 1048576) 0 1 1 (wkL 1048576) (wkSB 1048576 i64_box) (Nat.le_refl _) 4 1 2 j4 j2 j3
  rw [wkE2] at dc
  refine GW_list ?_
  simp only [Array.toList]
  refine GL_walk 1 [] rfl (by simp) (by kernel_rfl) ?_; intro q hq; simp [hC, hY]; refine hq _ _ _ _ ?_; clear hq q
  simp only [wT, List.length_cons, List.length_nil, Nat.reduceAdd]
  refine GL_callL (f := .func 21) (cap := #[]) hC dc rfl (by simp) rfl rfl (by simp [okT]) (by simp [gev]) (by simp) (by simp [okX, junk]) (by simp [gev]) (by simp [wkB]) (by (intro k hk; first | rfl | (simp (disch := omega) only [addB, List.mem_cons, List.not_mem_nil, or_false, upd_other, hpL_cons, hpL_nil, if_neg, updL] <;> done))) ?_ ?_
  · intro v ns hV k hk
    rw [driftR_key hV k hk]
    omega
  rintro v ns ⟨w, ⟨cc, Mc, gc, k1c, k2c, k3c, rfl, rfl⟩, rfl⟩
  refine GL_walk 6 [] rfl (by simp) (by kernel_rfl) ?_; intro q hq; simp [hC, hY, putT, updL]; refine hq _ _ _ _ ?_; clear hq q
  simp only [wT, List.length_cons, List.length_nil, Nat.reduceAdd]
  refine GL_nil ?_
  repeat' (first | refine GW_seq ?_ | simp only [List.length_cons, List.length_nil, Nat.reduceAdd, Nat.reduceMul, wN] | ((first | refine GW_region' [] (by kernel_rfl) ?_ | refine GW_draw' [] follows (by kernel_rfl) (by kernel_rfl) ?_); intro Q hQ hP; simp [hC, hY]; (first | refine hQ _ _ _ _ ?_ | refine hQ _ _ _ _ (by kernel_rfl) ?_ | refine hP _ _ (fun _ => ?_) | refine hP _ _ (by kernel_rfl) (fun _ => ?_)); clear hQ hP Q) | refine GW_block ?_ | refine GW_ret ?_ | refine GW_skip ?_ | refine GW_exit ?_ | refine GW_goto ?_ | refine GW_label ?_ | simp only [blockG_exit] | (refine GW_cond (by simp; rfl) ?_ ?_ <;> (intro hb; first | (exfalso; exact absurd hb (by decide)) | skip)))
  have dw := dWays_at 328 608 (by omega) (by omega) (by omega) (wkB 1048576) 0 1 1 (wkL 1048576) (wkSB 1048576 i64_box) 4 (-1) 5 j4 j6 j7
  rw [wkW] at dw
  refine GW_list ?_
  simp only [Array.toList]
  refine GL_walk 1 [] rfl (by simp) (by kernel_rfl) ?_; intro q hq; simp [hC, hY]; refine hq _ _ _ _ ?_; clear hq q
  simp only [wT, List.length_cons, List.length_nil, Nat.reduceAdd]
  refine GL_callL (f := .func 19) (cap := #[]) hC dw rfl (by simp) rfl rfl (by simp [okT]) (by simp [gev]) (by simp) (by simp [okX, junk]) (by simp [gev]) (by simp [wkB]) (by (intro k hk; first | rfl | (simp (disch := omega) only [addB, List.mem_cons, List.not_mem_nil, or_false, upd_other, hpL_cons, hpL_nil, if_neg, updL] <;> done))) ?_ ?_
  · rintro v ns ⟨w, hV, rfl⟩ k hk
    rw [vecR_key hV k hk]
    omega
  rintro v ns ⟨w, hV, rfl⟩
  rcases hV with ⟨h1, _⟩ | ⟨cd, gd, kd0, kd1, kd2, rfl, rfl⟩
  · simp at h1
  refine GL_walk 5 [] rfl (by simp) (by kernel_rfl) ?_; intro q hq; simp [hC, hY, putT, updL]; refine hq _ _ _ _ ?_; clear hq q
  simp only [wT, List.length_cons, List.length_nil, Nat.reduceAdd]
  refine GL_nil ?_
  have e0 : ga 0 = 4 := (k3a 0 (by omega)).trans wkF0.1
  have e1 : ga 1 = -1 := (k3a 1 (by omega)).trans wkF0.2.1
  have e2 : ga 2 = 3 := (k3a 2 (by omega)).trans wkF0.2.2
  have x0 : gd 0 = -1 := (kd2 0 (by simp)).trans wkG.1
  have x1 : gd 1 = 1 := (kd2 1 (by simp)).trans wkG.2.1
  have x2 : gd 2 = 0 := (kd2 2 (by simp)).trans wkG.2.2
  have l0 : loadK Tryd.prog 26 ⟨fa Ma .i64 ga, .ty 44⟩ 0 = some (.agg #[.int .i64 4, .int .i64 (-1), .int .i64 3]) := by
    have := loadK_rd (P := Tryd.prog) (T := 26) (m := 3) (j := 0) (tyAgg_of Tryd.isAgg26) (tySize_of Tryd.sizeOf26) (by omega) (rdI_fa Ma ga (.ty 44)) (by omega)
    rw [fa_3] at this
    simpa [e0, e1, e2] using this
  have l1 : loadK Tryd.prog 26 ⟨fa (3 * cd) .i64 gd, .ty 26⟩ 0 = some (.agg #[.int .i64 (-1), .int .i64 1, .int .i64 0]) := by
    have := loadK_rd (P := Tryd.prog) (T := 26) (m := 3) (j := 0) (tyAgg_of Tryd.isAgg26) (tySize_of Tryd.sizeOf26) (by omega) (rdI_fa (3 * cd) gd (.ty 26)) (by simp at kd1; omega)
    rw [fa_3] at this
    simpa [x0, x1, x2] using this
  repeat' (first | refine GW_seq ?_ | simp only [List.length_cons, List.length_nil, Nat.reduceAdd, Nat.reduceMul, wN] | ((first | refine GW_region' [] (by kernel_rfl) ?_ | refine GW_draw' [] follows (by kernel_rfl) (by kernel_rfl) ?_); intro Q hQ hP; simp [hC, hY, l0, l1, j2, j8, wkP.1, wkP.2]; (first | refine hQ _ _ _ _ ?_ | refine hQ _ _ _ _ (by kernel_rfl) ?_ | refine hP _ _ (fun _ => ?_) | refine hP _ _ (by kernel_rfl) (fun _ => ?_)); clear hQ hP Q) | refine GW_block ?_ | refine GW_ret ?_ | refine GW_skip ?_ | refine GW_exit ?_ | refine GW_goto ?_ | refine GW_label ?_ | simp only [blockG_exit] | (refine GW_cond (by simp; rfl) ?_ ?_ <;> (intro hb; first | (exfalso; exact absurd hb (by decide)) | skip)))
  refine ⟨.inr trivial, ?_⟩
  simp [Tryd.results12]
@[simp] theorem wakes15 (K : Value → Prop) : callK Tryd.prog G0 12 #[] K ↔ K (.bool true) := callK_iff G0W (by kernel_rfl) wakes15_ret
end Go.Gy
namespace Go.Gy
set_option linter.unusedSimpArgs false
set_option linter.unusedVariables false
open Go Go.RowKit Go.Proofs
theorem d1_out {v n d : Int} (h : ¬ (partB n d = true ∧ -1073741824 ≤ v ∧ v ≤ 1073741824)) : d1E v n d = 2 ∧ d1V v n d = 0 := by
  unfold d1E d1V
  rw [if_neg h, if_neg h]
  exact ⟨rfl, rfl⟩
theorem d1_at {v n d : Int} (hp : partB n d = true) (h1 : -1073741824 ≤ v) (h2 : v ≤ 1073741824) : d1E v n d = 0 ∧ d1V v n d = nearQ (v * n) d := by
  unfold d1E d1V
  rw [if_pos ⟨hp, h1, h2⟩, if_pos ⟨hp, h1, h2⟩]
  exact ⟨rfl, rfl⟩
theorem partB_neg {n d : Int} (h : partB n d = true) : partB (-n) d = true := by
  have := partB_t h
  unfold partB
  exact decide_eq_true (by omega)
set_option maxHeartbeats 4000000 in
set_option maxRecDepth 8000 in
theorem DriftHalf_ret (v n d : Int) (hv : i64 v) (hn : i64 n) (hd : i64 d) : Ret Tryd.prog G0 5 #[.int .i64 v, .int .i64 n, .int .i64 d] (.bool true) := by
  refine ret_of G0F Tryd.func5 rfl Tryd.call5 (by simp) (by simp) (by simp [Tryd.ntmps5]) ?_
  intro C hC hC0 hY
  by_cases c1 : v < -1073741824
  · obtain ⟨e1, e2⟩ := d1_out (v := v) (n := n) (d := d) (by omega)
    repeat' (first | refine GW_seq ?_ | simp only [List.length_cons, List.length_nil, Nat.reduceAdd, Nat.reduceMul, wN] | ((first | refine GW_region' [] (by kernel_rfl) ?_ | refine GW_draw' [] follows (by kernel_rfl) (by kernel_rfl) ?_); intro Q hQ hP; simp [hC, hY, hn, hv, hd, c1, e1, e2]; (first | refine hQ _ _ _ _ ?_ | refine hQ _ _ _ _ (by kernel_rfl) ?_ | refine hP _ _ (fun _ => ?_) | refine hP _ _ (by kernel_rfl) (fun _ => ?_)); clear hQ hP Q) | refine GW_block ?_ | refine GW_ret ?_ | refine GW_skip ?_ | refine GW_exit ?_ | refine GW_goto ?_ | refine GW_label ?_ | simp only [blockG_exit] | (refine GW_cond (by simp; rfl) ?_ ?_ <;> (intro hb; first | (exfalso; exact absurd hb (by decide)) | skip)))
    refine ⟨.inr trivial, ?_⟩
    simp [Tryd.results5]
  by_cases c2 : 1073741824 < v
  · obtain ⟨e1, e2⟩ := d1_out (v := v) (n := n) (d := d) (by omega)
    repeat' (first | refine GW_seq ?_ | simp only [List.length_cons, List.length_nil, Nat.reduceAdd, Nat.reduceMul, wN] | ((first | refine GW_region' [] (by kernel_rfl) ?_ | refine GW_draw' [] follows (by kernel_rfl) (by kernel_rfl) ?_); intro Q hQ hP; simp [hC, hY, hn, hv, hd, c1, c2, e1, e2]; (first | refine hQ _ _ _ _ ?_ | refine hQ _ _ _ _ (by kernel_rfl) ?_ | refine hP _ _ (fun _ => ?_) | refine hP _ _ (by kernel_rfl) (fun _ => ?_)); clear hQ hP Q) | refine GW_block ?_ | refine GW_ret ?_ | refine GW_skip ?_ | refine GW_exit ?_ | refine GW_goto ?_ | refine GW_label ?_ | simp only [blockG_exit] | (refine GW_cond (by simp; rfl) ?_ ?_ <;> (intro hb; first | (exfalso; exact absurd hb (by decide)) | skip)))
    refine ⟨.inr trivial, ?_⟩
    simp [Tryd.results5]
  cases hp : partB n d with
  | false =>
    obtain ⟨e1, e2⟩ := d1_out (v := v) (n := n) (d := d) (by simp [hp])
    repeat' (first | refine GW_seq ?_ | simp only [List.length_cons, List.length_nil, Nat.reduceAdd, Nat.reduceMul, wN] | ((first | refine GW_region' [] (by kernel_rfl) ?_ | refine GW_draw' [] follows (by kernel_rfl) (by kernel_rfl) ?_); intro Q hQ hP; simp [hC, hY, hn, hv, hd, c1, c2, hp, e1, e2]; (first | refine hQ _ _ _ _ ?_ | refine hQ _ _ _ _ (by kernel_rfl) ?_ | refine hP _ _ (fun _ => ?_) | refine hP _ _ (by kernel_rfl) (fun _ => ?_)); clear hQ hP Q) | refine GW_block ?_ | refine GW_ret ?_ | refine GW_skip ?_ | refine GW_exit ?_ | refine GW_goto ?_ | refine GW_label ?_ | simp only [blockG_exit] | (refine GW_cond (by simp; rfl) ?_ ?_ <;> (intro hb; first | (exfalso; exact absurd hb (by decide)) | skip)))
    refine ⟨.inr trivial, ?_⟩
    simp [Tryd.results5]
  | true =>
    have hb := partB_t hp
    have d0 : 0 < d := by omega
    obtain ⟨e0, x0⟩ := d1_at (v := v) hp (by omega) (by omega)
    obtain ⟨e1, x1⟩ := d1_at (v := -v) hp (by omega) (by omega)
    obtain ⟨e2, x2⟩ := d1_at (v := v) (partB_neg hp) (by omega) (by omega)
    have hbd := d1_bd (v := v) hp (by omega) (by omega)
    rw [Int.neg_mul, nearQ_neg d0] at x1
    rw [Int.mul_neg, nearQ_neg d0] at x2
    have hrest := nearQ_rest (a := v * n) d0
    obtain ⟨x, hx⟩ : ∃ x, nearQ (v * n) d = x := ⟨_, rfl⟩
    rw [hx] at x0 x1 x2 hrest hbd
    rw [Int.mul_comm v n] at hrest
    obtain ⟨r, hr⟩ : ∃ r, n * v - x * d = r := ⟨_, rfl⟩
    rw [hr] at hrest
    obtain ⟨q1, q2, q3, q4⟩ := hrest
    obtain ⟨_, hx1, hx2⟩ := hbd
    have i1 : i64 (-v) := ⟨by omega, by omega⟩
    have i2 : i64 (-n) := ⟨by omega, by omega⟩
    have i3 : i64 x := ⟨by omega, by omega⟩
    have i4 : i64 r := ⟨by omega, by omega⟩
    have b1 : Int.bmod (-v) 18446744073709551616 = -v := bm (by omega) (by omega)
    have b2 : Int.bmod (-n) 18446744073709551616 = -n := bm (by omega) (by omega)
    have b3 : Int.bmod (-x) 18446744073709551616 = -x := bm (by omega) (by omega)
    have b4 : Int.bmod (-d) 18446744073709551616 = -d := bm (by omega) (by omega)
    have b5 : Int.bmod (2 * r) 18446744073709551616 = 2 * r := bm (by omega) (by omega)
    have b6 : Int.bmod (-2 * r) 18446744073709551616 = -2 * r := bm (by omega) (by omega)
    have s1 := hv.sm.sz
    have s2 := hn.sm.sz
    have s3 := i3.sm.sz
    have s4 := hd.sm.sz
    have s5 := i4.sm.sz
    have g1 : ¬ 4503599627370496 < x := by omega
    have g2 : ¬ x < -4503599627370496 := by omega
    have g3 : ¬ d < r := by omega
    have g4 : ¬ r < -d := by omega
    have g5 : ¬ d < 2 * r := by omega
    have g6 : ¬ d < -2 * r := by omega
    by_cases t1 : 2 * r = d
    · have t2 : ¬ 0 < x := by have := q3 t1; omega
      have b7 : Int.bmod d 18446744073709551616 = d := bm (by omega) (by omega)
      have t3 : (-2 * r == d) = false := by rw [beq_eq_false_iff_ne]; omega
      repeat' (first | refine GW_seq ?_ | simp only [List.length_cons, List.length_nil, Nat.reduceAdd, Nat.reduceMul, wN] | ((first | refine GW_region' [] (by kernel_rfl) ?_ | refine GW_draw' [] follows (by kernel_rfl) (by kernel_rfl) ?_); intro Q hQ hP; simp [hC, hY, hn, hv, hd, c1, c2, hp, e0, e1, e2, x0, x1, x2, hr, i1, i2, i3, i4, b1, b2, b3, b4, b5, b6, s1, s2, s3, s4, s5, g1, g2, g3, g4, g5, g6, t1, t2, t3, b7]; (first | refine hQ _ _ _ _ ?_ | refine hQ _ _ _ _ (by kernel_rfl) ?_ | refine hP _ _ (fun _ => ?_) | refine hP _ _ (by kernel_rfl) (fun _ => ?_)); clear hQ hP Q) | refine GW_block ?_ | refine GW_ret ?_ | refine GW_skip ?_ | refine GW_exit ?_ | refine GW_goto ?_ | refine GW_label ?_ | simp only [blockG_exit] | (refine GW_cond (by simp; rfl) ?_ ?_ <;> (intro hb; first | (exfalso; exact absurd hb (by decide)) | skip)))
      refine ⟨.inr trivial, ?_⟩
      simp [Tryd.results5]
    have t1' : (2 * r == d) = false := by rw [beq_eq_false_iff_ne]; exact t1
    by_cases t4 : -2 * r = d
    · have t5 : ¬ x < 0 := by have := q4 (by omega); omega
      have t6 : (-2 * r == d) = true := by rw [beq_iff_eq]; exact t4
      have b7 : Int.bmod d 18446744073709551616 = d := bm (by omega) (by omega)
      repeat' (first | refine GW_seq ?_ | simp only [List.length_cons, List.length_nil, Nat.reduceAdd, Nat.reduceMul, wN] | ((first | refine GW_region' [] (by kernel_rfl) ?_ | refine GW_draw' [] follows (by kernel_rfl) (by kernel_rfl) ?_); intro Q hQ hP; simp [hC, hY, hn, hv, hd, c1, c2, hp, e0, e1, e2, x0, x1, x2, hr, i1, i2, i3, i4, b1, b2, b3, b4, b5, b6, s1, s2, s3, s4, s5, g1, g2, g3, g4, g5, g6, t1', t5, t6, b7]; (first | refine hQ _ _ _ _ ?_ | refine hQ _ _ _ _ (by kernel_rfl) ?_ | refine hP _ _ (fun _ => ?_) | refine hP _ _ (by kernel_rfl) (fun _ => ?_)); clear hQ hP Q) | refine GW_block ?_ | refine GW_ret ?_ | refine GW_skip ?_ | refine GW_exit ?_ | refine GW_goto ?_ | refine GW_label ?_ | simp only [blockG_exit] | (refine GW_cond (by simp; rfl) ?_ ?_ <;> (intro hb; first | (exfalso; exact absurd hb (by decide)) | skip)))
      refine ⟨.inr trivial, ?_⟩
      simp [Tryd.results5]
    have t4' : (-2 * r == d) = false := by rw [beq_eq_false_iff_ne]; exact t4
    repeat' (first | refine GW_seq ?_ | simp only [List.length_cons, List.length_nil, Nat.reduceAdd, Nat.reduceMul, wN] | ((first | refine GW_region' [] (by kernel_rfl) ?_ | refine GW_draw' [] follows (by kernel_rfl) (by kernel_rfl) ?_); intro Q hQ hP; simp [hC, hY, hn, hv, hd, c1, c2, hp, e0, e1, e2, x0, x1, x2, hr, i1, i2, i3, i4, b1, b2, b3, b4, b5, b6, s1, s2, s3, s4, s5, g1, g2, g3, g4, g5, g6, t1', t4']; (first | refine hQ _ _ _ _ ?_ | refine hQ _ _ _ _ (by kernel_rfl) ?_ | refine hP _ _ (fun _ => ?_) | refine hP _ _ (by kernel_rfl) (fun _ => ?_)); clear hQ hP Q) | refine GW_block ?_ | refine GW_ret ?_ | refine GW_skip ?_ | refine GW_exit ?_ | refine GW_goto ?_ | refine GW_label ?_ | simp only [blockG_exit] | (refine GW_cond (by simp; rfl) ?_ ?_ <;> (intro hb; first | (exfalso; exact absurd hb (by decide)) | skip)))
    refine ⟨.inr trivial, ?_⟩
    simp [Tryd.results5]
set_option maxHeartbeats 4000000 in
set_option maxRecDepth 8000 in
theorem DriftParts_ret (v w n d : Int) (hv : i64 v) (hw : i64 w) (hn : i64 n) (hd : i64 d) : Ret Tryd.prog G0 7 #[.int .i64 v, .int .i64 w, .int .i64 n, .int .i64 d] (.bool true) := by
  refine ret_of G0F Tryd.func7 rfl Tryd.call7 (by simp) (by simp) (by simp [Tryd.ntmps7]) ?_
  intro C hC hC0 hY
  obtain ⟨lo, hlo⟩ : ∃ m, (if w < v then w else v) = m := ⟨_, rfl⟩
  obtain ⟨hi, hhi⟩ : ∃ m, (if v < w then w else v) = m := ⟨_, rfl⟩
  by_cases q0 : lo < -1073741824
  ·
    repeat' (first | refine GW_seq ?_ | simp only [List.length_cons, List.length_nil, Nat.reduceAdd, Nat.reduceMul, wN] | ((first | refine GW_region' [] (by kernel_rfl) ?_ | refine GW_draw' [] follows (by kernel_rfl) (by kernel_rfl) ?_); intro Q hQ hP; simp [hC, hY, hlo, hhi, q0]; (first | refine hQ _ _ _ _ ?_ | refine hQ _ _ _ _ (by kernel_rfl) ?_ | refine hP _ _ (fun _ => ?_) | refine hP _ _ (by kernel_rfl) (fun _ => ?_)); clear hQ hP Q) | refine GW_block ?_ | refine GW_ret ?_ | refine GW_skip ?_ | refine GW_exit ?_ | refine GW_goto ?_ | refine GW_label ?_ | simp only [blockG_exit] | (refine GW_cond (by simp; rfl) ?_ ?_ <;> (intro hb; first | (exfalso; exact absurd hb (by decide)) | skip)))
    refine ⟨.inr trivial, ?_⟩
    simp [Tryd.results7]
  by_cases q1 : 1073741824 < hi
  ·
    repeat' (first | refine GW_seq ?_ | simp only [List.length_cons, List.length_nil, Nat.reduceAdd, Nat.reduceMul, wN] | ((first | refine GW_region' [] (by kernel_rfl) ?_ | refine GW_draw' [] follows (by kernel_rfl) (by kernel_rfl) ?_); intro Q hQ hP; simp [hC, hY, hlo, hhi, q0, q1]; (first | refine hQ _ _ _ _ ?_ | refine hQ _ _ _ _ (by kernel_rfl) ?_ | refine hP _ _ (fun _ => ?_) | refine hP _ _ (by kernel_rfl) (fun _ => ?_)); clear hQ hP Q) | refine GW_block ?_ | refine GW_ret ?_ | refine GW_skip ?_ | refine GW_exit ?_ | refine GW_goto ?_ | refine GW_label ?_ | simp only [blockG_exit] | (refine GW_cond (by simp; rfl) ?_ ?_ <;> (intro hb; first | (exfalso; exact absurd hb (by decide)) | skip)))
    refine ⟨.inr trivial, ?_⟩
    simp [Tryd.results7]
  by_cases q2 : n < 0
  ·
    repeat' (first | refine GW_seq ?_ | simp only [List.length_cons, List.length_nil, Nat.reduceAdd, Nat.reduceMul, wN] | ((first | refine GW_region' [] (by kernel_rfl) ?_ | refine GW_draw' [] follows (by kernel_rfl) (by kernel_rfl) ?_); intro Q hQ hP; simp [hC, hY, hlo, hhi, q0, q1, q2]; (first | refine hQ _ _ _ _ ?_ | refine hQ _ _ _ _ (by kernel_rfl) ?_ | refine hP _ _ (fun _ => ?_) | refine hP _ _ (by kernel_rfl) (fun _ => ?_)); clear hQ hP Q) | refine GW_block ?_ | refine GW_ret ?_ | refine GW_skip ?_ | refine GW_exit ?_ | refine GW_goto ?_ | refine GW_label ?_ | simp only [blockG_exit] | (refine GW_cond (by simp; rfl) ?_ ?_ <;> (intro hb; first | (exfalso; exact absurd hb (by decide)) | skip)))
    refine ⟨.inr trivial, ?_⟩
    simp [Tryd.results7]
  by_cases q3 : 1048576 < n
  ·
    repeat' (first | refine GW_seq ?_ | simp only [List.length_cons, List.length_nil, Nat.reduceAdd, Nat.reduceMul, wN] | ((first | refine GW_region' [] (by kernel_rfl) ?_ | refine GW_draw' [] follows (by kernel_rfl) (by kernel_rfl) ?_); intro Q hQ hP; simp [hC, hY, hlo, hhi, q0, q1, q2, q3]; (first | refine hQ _ _ _ _ ?_ | refine hQ _ _ _ _ (by kernel_rfl) ?_ | refine hP _ _ (fun _ => ?_) | refine hP _ _ (by kernel_rfl) (fun _ => ?_)); clear hQ hP Q) | refine GW_block ?_ | refine GW_ret ?_ | refine GW_skip ?_ | refine GW_exit ?_ | refine GW_goto ?_ | refine GW_label ?_ | simp only [blockG_exit] | (refine GW_cond (by simp; rfl) ?_ ?_ <;> (intro hb; first | (exfalso; exact absurd hb (by decide)) | skip)))
    refine ⟨.inr trivial, ?_⟩
    simp [Tryd.results7]
  by_cases q4 : d < 1
  ·
    repeat' (first | refine GW_seq ?_ | simp only [List.length_cons, List.length_nil, Nat.reduceAdd, Nat.reduceMul, wN] | ((first | refine GW_region' [] (by kernel_rfl) ?_ | refine GW_draw' [] follows (by kernel_rfl) (by kernel_rfl) ?_); intro Q hQ hP; simp [hC, hY, hlo, hhi, q0, q1, q2, q3, q4]; (first | refine hQ _ _ _ _ ?_ | refine hQ _ _ _ _ (by kernel_rfl) ?_ | refine hP _ _ (fun _ => ?_) | refine hP _ _ (by kernel_rfl) (fun _ => ?_)); clear hQ hP Q) | refine GW_block ?_ | refine GW_ret ?_ | refine GW_skip ?_ | refine GW_exit ?_ | refine GW_goto ?_ | refine GW_label ?_ | simp only [blockG_exit] | (refine GW_cond (by simp; rfl) ?_ ?_ <;> (intro hb; first | (exfalso; exact absurd hb (by decide)) | skip)))
    refine ⟨.inr trivial, ?_⟩
    simp [Tryd.results7]
  by_cases q5 : 1048576 < d
  ·
    repeat' (first | refine GW_seq ?_ | simp only [List.length_cons, List.length_nil, Nat.reduceAdd, Nat.reduceMul, wN] | ((first | refine GW_region' [] (by kernel_rfl) ?_ | refine GW_draw' [] follows (by kernel_rfl) (by kernel_rfl) ?_); intro Q hQ hP; simp [hC, hY, hlo, hhi, q0, q1, q2, q3, q4, q5]; (first | refine hQ _ _ _ _ ?_ | refine hQ _ _ _ _ (by kernel_rfl) ?_ | refine hP _ _ (fun _ => ?_) | refine hP _ _ (by kernel_rfl) (fun _ => ?_)); clear hQ hP Q) | refine GW_block ?_ | refine GW_ret ?_ | refine GW_skip ?_ | refine GW_exit ?_ | refine GW_goto ?_ | refine GW_label ?_ | simp only [blockG_exit] | (refine GW_cond (by simp; rfl) ?_ ?_ <;> (intro hb; first | (exfalso; exact absurd hb (by decide)) | skip)))
    refine ⟨.inr trivial, ?_⟩
    simp [Tryd.results7]
  have hvr : -1073741824 ≤ v ∧ v ≤ 1073741824 := by
    constructor
    · by_cases c : w < v
      · rw [if_pos c] at hlo; omega
      · rw [if_neg c] at hlo; omega
    · by_cases c : v < w
      · rw [if_pos c] at hhi; omega
      · rw [if_neg c] at hhi; omega
  have hwr : -1073741824 ≤ w ∧ w ≤ 1073741824 := by
    constructor
    · by_cases c : w < v
      · rw [if_pos c] at hlo; omega
      · rw [if_neg c] at hlo; omega
    · by_cases c : v < w
      · rw [if_pos c] at hhi; omega
      · rw [if_neg c] at hhi; omega
  have p0 : partB n d = true := by unfold partB; exact decide_eq_true (by omega)
  have p1 : partB (2 * n) (2 * d) = true := by unfold partB; exact decide_eq_true (by omega)
  have p2 : partB d d = true := by unfold partB; exact decide_eq_true (by omega)
  have d0 : 0 < d := by omega
  obtain ⟨e0, x0⟩ := d1_at (v := v) p0 hvr.1 hvr.2
  obtain ⟨e1, x1⟩ := d1_at (v := v) p1 hvr.1 hvr.2
  obtain ⟨e2, x2⟩ := d1_at (v := w) p0 hwr.1 hwr.2
  obtain ⟨e3, x3⟩ := d1_at (v := v) p2 hvr.1 hvr.2
  rw [show v * (2 * n) = 2 * (v * n) by rw [Int.mul_left_comm], nearQ_dbl d0] at x1
  rw [nearQ_self d0] at x3
  have hle : v ≤ w → nearQ (v * n) d ≤ nearQ (w * n) d := fun h => nearQ_le d0 (Int.mul_le_mul_of_nonneg_right h (by omega))
  have hge : w ≤ v → nearQ (w * n) d ≤ nearQ (v * n) d := fun h => nearQ_le d0 (Int.mul_le_mul_of_nonneg_right h (by omega))
  obtain ⟨x, hx⟩ : ∃ x, nearQ (v * n) d = x := ⟨_, rfl⟩
  obtain ⟨z, hz⟩ : ∃ z, nearQ (w * n) d = z := ⟨_, rfl⟩
  rw [hx] at x0 x1 hle hge
  rw [hz] at x2 hle hge
  have b1 : Int.bmod (2 * n) 18446744073709551616 = 2 * n := bm (by omega) (by omega)
  have b2 : Int.bmod (2 * d) 18446744073709551616 = 2 * d := bm (by omega) (by omega)
  have i1 : i64 (2 * n) := ⟨by omega, by omega⟩
  have i2 : i64 (2 * d) := ⟨by omega, by omega⟩
  have v1 : ¬ v < -1073741824 := by omega
  have v2 : ¬ 1073741824 < v := by omega
  have v3 : ¬ w < -1073741824 := by omega
  have v4 : ¬ 1073741824 < w := by omega
  by_cases c1 : v < w
  · have c2 : ¬ w < v := by omega
    have c3 : x ≤ z := hle (by omega)
    repeat' (first | refine GW_seq ?_ | simp only [List.length_cons, List.length_nil, Nat.reduceAdd, Nat.reduceMul, wN] | ((first | refine GW_region' [] (by kernel_rfl) ?_ | refine GW_draw' [] follows (by kernel_rfl) (by kernel_rfl) ?_); intro Q hQ hP; simp [hC, hY, hn, hv, hw, hd, hlo, hhi, q0, q1, q2, q3, q4, q5, e0, e1, e2, e3, x0, x1, x2, x3, b1, b2, i1, i2, v1, v2, v3, v4, c1, c2, c3]; (first | refine hQ _ _ _ _ ?_ | refine hQ _ _ _ _ (by kernel_rfl) ?_ | refine hP _ _ (fun _ => ?_) | refine hP _ _ (by kernel_rfl) (fun _ => ?_)); clear hQ hP Q) | refine GW_block ?_ | refine GW_ret ?_ | refine GW_skip ?_ | refine GW_exit ?_ | refine GW_goto ?_ | refine GW_label ?_ | simp only [blockG_exit] | (refine GW_cond (by simp; rfl) ?_ ?_ <;> (intro hb; first | (exfalso; exact absurd hb (by decide)) | skip)))
    refine ⟨.inr trivial, ?_⟩
    simp [Tryd.results7]
  by_cases c2 : w < v
  · have c3 : z ≤ x := hge (by omega)
    repeat' (first | refine GW_seq ?_ | simp only [List.length_cons, List.length_nil, Nat.reduceAdd, Nat.reduceMul, wN] | ((first | refine GW_region' [] (by kernel_rfl) ?_ | refine GW_draw' [] follows (by kernel_rfl) (by kernel_rfl) ?_); intro Q hQ hP; simp [hC, hY, hn, hv, hw, hd, hlo, hhi, q0, q1, q2, q3, q4, q5, e0, e1, e2, e3, x0, x1, x2, x3, b1, b2, i1, i2, v1, v2, v3, v4, c1, c2, c3]; (first | refine hQ _ _ _ _ ?_ | refine hQ _ _ _ _ (by kernel_rfl) ?_ | refine hP _ _ (fun _ => ?_) | refine hP _ _ (by kernel_rfl) (fun _ => ?_)); clear hQ hP Q) | refine GW_block ?_ | refine GW_ret ?_ | refine GW_skip ?_ | refine GW_exit ?_ | refine GW_goto ?_ | refine GW_label ?_ | simp only [blockG_exit] | (refine GW_cond (by simp; rfl) ?_ ?_ <;> (intro hb; first | (exfalso; exact absurd hb (by decide)) | skip)))
    refine ⟨.inr trivial, ?_⟩
    simp [Tryd.results7]
  have c3 : x ≤ z := hle (by omega)
  have c4 : z ≤ x := hge (by omega)
  repeat' (first | refine GW_seq ?_ | simp only [List.length_cons, List.length_nil, Nat.reduceAdd, Nat.reduceMul, wN] | ((first | refine GW_region' [] (by kernel_rfl) ?_ | refine GW_draw' [] follows (by kernel_rfl) (by kernel_rfl) ?_); intro Q hQ hP; simp [hC, hY, hn, hv, hw, hd, hlo, hhi, q0, q1, q2, q3, q4, q5, e0, e1, e2, e3, x0, x1, x2, x3, b1, b2, i1, i2, v1, v2, v3, v4, c1, c2, c3, c4]; (first | refine hQ _ _ _ _ ?_ | refine hQ _ _ _ _ (by kernel_rfl) ?_ | refine hP _ _ (fun _ => ?_) | refine hP _ _ (by kernel_rfl) (fun _ => ?_)); clear hQ hP Q) | refine GW_block ?_ | refine GW_ret ?_ | refine GW_skip ?_ | refine GW_exit ?_ | refine GW_goto ?_ | refine GW_label ?_ | simp only [blockG_exit] | (refine GW_cond (by simp; rfl) ?_ ?_ <;> (intro hb; first | (exfalso; exact absurd hb (by decide)) | skip)))
  refine ⟨.inr trivial, ?_⟩
  simp [Tryd.results7]
end Go.Gy
namespace Go.Gy
set_option linter.unusedSimpArgs false
set_option linter.unusedVariables false
set_option maxRecDepth 100000
open Go Go.RowKit Go.Proofs Go.ChangeShapes Go.WideShapes Go.ChangeAt

section
variable {H : Type} {enc : TypeId × Value → H} {P : Program}
theorem post_of_below {f : Func} {s : ChangeSpec} {apart fresh handsOn again : Bool} {W W' : World} {args : Array Value} {v : Value} {ds gs : List (DataW H)} {before pa pv : List MemPlace}
    (hW : DataW.Whole enc P f.params.toList s.vars apart W args.toList ds gs before)
    (hres : ∀ (b : Nat) (sp : Nat → Bool) (hd : Bool), DataW.TrodAll enc P W' b sp hd f.resultTypes.toList (v.resultList f.resultTypes.size) (s.fn H (ds ++ gs)).results [])
    (hargs : ∀ sp : Nat → Bool, (∀ p ∈ before, sp p.block = true) → DataW.TrodAll enc P W' 0 sp true f.params.toList args.toList (s.fn H (ds ++ gs)).args pa)
    (hvars : ∀ sp : Nat → Bool, (∀ p ∈ before, sp p.block = true) → DataW.TrodVars enc P W' sp s.vars (s.fn H (ds ++ gs)).vars pv)
    (hps : before = pa ++ pv) (hb : Below W.heap.size W W')
    (hok : ∀ (j : Nat) (t : TypeId) (r : Value), f.resultTypes[j]? = some t → (v.resultList f.resultTypes.size)[j]? = some r → Value.okWide P W' .any 0 t r) :
    s.post enc P f apart fresh handsOn again W args v W' := by
  have hlt : ∀ p ∈ before, p.block < W.heap.size := fun p hp => hW.lt p hp
  have hold : ∀ p ∈ before, (fun b => decide (b < W.heap.size)) p.block = true := fun p hp => by simpa using hlt p hp
  refine ⟨ds, gs, before, [], pa, pv, hW, hres _ _ _, hargs _ hold, hvars _ hold, World.keptBut_mono (fun p hp => ⟨hp, ?_⟩) (hb.frame (· ∈ before)), fun _ => ?_⟩
  · rw [hps, List.mem_append] at hp
    exact Or.inr hp
  · obtain ⟨_, _, _, _, _, hz, hn⟩ := hW
    refine ⟨hok, _, _, ([] ++ pa) ++ pv, ⟨[] ++ pa, pv, trodAll_append (hargs _ (fun _ _ => rfl)) (hres _ _ _), hvars _ (fun _ _ => rfl), rfl, ?_, ?_⟩, ?_⟩
    · intro b off hp
      have hin : MemPlace.cell b off ∈ before := by rw [hps]; simpa using hp
      rw [hb.frozen (hlt _ hin)]
      exact hz b off hin
    · intro ha
      have := hn ha
      rw [hps] at this
      simpa using this
    · intro p hp _
      rw [hps]
      simpa using hp
end

/-! A wide number, an int, a point. -/
theorem cells_u64 : Tryd.prog.cellsOf 46 = 1 := by kernel_rfl
theorem cells_wide : Tryd.prog.cellsOf 48 = 4 := by kernel_rfl
theorem mm_i64 : IntKind.i64.min = -9223372036854775808 ∧ IntKind.i64.max = 9223372036854775807 := by decide
theorem wf_i64 {z : Int} (h : (Lit.int .i64 z).wf = true) : i64 z := by
  simp only [Lit.wf, Bool.and_eq_true, decide_eq_true_eq, mm_i64.1, mm_i64.2] at h; unfold i64; omega
section
variable {H : Type} {enc : TypeId × Value → H} {w : World}
end

/-! What the rows' lists give. -/
theorem own : ownKnob Tryd.prog.godebug = none := by kernel_rfl
theorem gLeast : Tryd.prog.globalNamed "gyre/quot.least" = some 1 := by kernel_rfl
theorem gLeastType : (Tryd.prog.globals[1]?).map (·.type) = some 48 := by kernel_rfl
theorem gLeastRow : ((begin Tryd.prog (fun _ _ => 0) default).world.heap[1]?).bind Obj.row? = some (#[.int .u64 0, .int .u64 0, .int .u64 0, .int .u64 0], 48) := by kernel_rfl
theorem heap_of_var {P : Program} {W : World} {name : String} {g : Nat} {cs : Array Value} {z : Array Value} {T : TypeId} (hg : P.globalNamed name = some g) (hlt : g < P.globals.size) (hrow : ((begin P (fun _ _ => 0) default).world.heap[g]?).bind Obj.row? = some (z, T))
    (hS : W.ShapedOpen P) (hv : W.var? P name = some cs) : W.heap[g]? = some (.cells cs T (0, 0)) := by
  obtain ⟨c, h1, _⟩ := hS.1 g z T hlt hrow
  unfold World.var? at hv
  rw [hg] at hv
  simp only [Option.bind_some, h1, Option.some.injEq] at hv
  rw [h1, hv]
theorem gok_least {W : World} (hS : W.ShapedOpen Tryd.prog) (hv : W.var? Tryd.prog "gyre/quot.least" = some lsB.c) : GOK G0 W := fun k b hk => by
  have h := G0_mem hk
  simp [G0L] at h
  obtain ⟨rfl, rfl⟩ := h
  exact heap_of_var gLeast (of_decide_eq_true (by kernel_rfl)) gLeastRow hS hv
theorem least_of {W : World} {rest : List (String × DataW Unit)} (h : laidMet Tryd.prog (("gyre/quot.least", Proofs.YteoefgffimgcmaaDoor.Rows.laid_gyre_quot_least) :: rest) W) : W.var? Tryd.prog "gyre/quot.least" = some lsB.c :=
  Lib.tabIs_of_head (zs := [0, 0, 0, 9223372036854775808]) gLeast gLeastType Tryd.underlying48 Tryd.underlying46 cells_u64 cells_wide h
end Go.Gy
