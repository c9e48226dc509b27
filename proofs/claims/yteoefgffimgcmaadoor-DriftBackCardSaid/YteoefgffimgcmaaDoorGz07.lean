/-
  Lemmas of this claim, in their order (GyWU, GyWV, GyH, GyHS).
  Conditions: those of each theorem.
-/
import Derived.Test.YteoefgffimgcmaaDoorGz06
import Derived.Test.YteoefgffimgcmaaDoorCards
import Derived.Test.YteoefgffimgcmaaDoorTie
import Derived.WalkKit
import Derived.ProofKit
import Derived.OpenShut
import Derived.Below
import Derived.ChangeSame
import Derived.Deep.DeepHandedRow
import Derived.Lib.LaidTab
import Derived.Deep.Slices
import Derived.ReadAgain
import Derived.Carry
namespace Go.Gy
set_option linter.unusedSimpArgs false
set_option linter.unusedVariables false
open Go Go.RowKit Go.Proofs
theorem drift15_at (nb nk : Nat) (hb1 : 100 ≤ nb) (hk1 : 100 ≤ nk) (hbk : nb ≠ nk) (b : Blk) (off n cap : Nat) (f : Nat → Int) (h : SB b off n f) (hcap : n ≤ cap) (st p q : Int) (hs : i64 st) (hp : i64 p) (hq : i64 q) :
    FunS Tryd.prog G0 22 #[.agg #[.int .i64 st, .slice (some ⟨nb, off, none⟩) n cap], .int .i64 p, .int .i64 q] (hpL G0 [(nb, b)]) [nb] (DriftR nk st n (drF st f n p q) (drE st f n p q)) := by
  have hr := fun ρ => Blk.fx_rn h.fx ρ
  refine (drift15_fun b off n cap f h hcap st p q hs hp hq).mvL G0F (oneL_ok h.fx) (nn2 nb nk) nn2_low (by simp [ren, renA, renF, ren0, nn2_b]) (by simp [keys, nn2_b]) (driftR_rr nn2_k) (at_low hb1) (by simp [nn2_b, hr, hb1]) (by simp [keys]) (fun v ns hV k hk => ?_) (fun v ns hV k hk l hl _ => by rw [driftR_key hV k hk, driftR_key hV l hl])
  rw [driftR_key hV k hk, nn2_k]
  simp
  exact ⟨hk1, fun e => hbk e.symm⟩
theorem drF_i64 {st : Int} {f : Nat → Int} {n : Nat} {p q : Int} (hf : ∀ j, j < 6 * n → i64 (f j)) {j : Nat} (hj : j < 6 * n) : i64 (drF st f n p q j) := by
  by_cases hE : drE st f n p q = 0
  · rw [drF_0 hE]
    have hok : okB f p q (j / 6) = true := by
      unfold drE at hE
      split at hE
      · split at hE
        · rename_i h
          exact drOk_iff.1 h _ (by omega)
        · cases hE
      · cases hE
    unfold okB at hok
    obtain ⟨a0, a1, a2⟩ := inV_iff.1 hok
    unfold inW at a0 a1 a2
    unfold mvF
    split
    · rename_i hm
      have hc : j % 6 = 0 ∨ j % 6 = 1 ∨ j % 6 = 2 := by omega
      have hd : 6 * (j / 6) + j % 6 = j := by omega
      rcases hc with e | e | e
      · rw [e] at hd ⊢
        rw [Nat.add_zero] at hd
        rw [hd] at a0
        exact ⟨by omega, by omega⟩
      · rw [e] at hd ⊢
        rw [hd] at a1
        exact ⟨by omega, by omega⟩
      · rw [e] at hd ⊢
        rw [hd] at a2
        exact ⟨by omega, by omega⟩
    · exact hf j hj
  · unfold drF
    rw [if_neg hE]
    exact hf j hj
/-- A row of one's own holds a state's bodies. -/
theorem own_sb {n M : Nat} {g F : Nat → Int} (hM : 6 * n ≤ M) (hg : ∀ j, j < 6 * n → g j = F j) (hF : ∀ j, j < 6 * n → i64 (F j)) (hn : n ≤ 2932031007402) : SB ⟨fa M .i64 g, .ty 44⟩ 0 n F := by
  refine ⟨fun j hj => ?_, fa_fx _ _ _, hF, hn⟩
  have := (rdI_fa M g (.ty 44)) j (by omega)
  rw [this, hg j hj]
set_option maxRecDepth 8000 in
set_option maxHeartbeats 8000000 in
theorem DriftTells_nil (st x0 x1 x2 x p q : Int) (hs : i64 st) (h0 : i64 x0) (h1 : i64 x1) (h2 : i64 x2) (hx : i64 x) (hp : i64 p) (hq : i64 q) : Ret Tryd.prog G0 3 #[.agg #[.int .i64 st, .slice none 0 0], .agg #[.int .i64 x0, .int .i64 x1, .int .i64 x2], .int .i64 x, .int .i64 p, .int .i64 q] (.bool true) := by
  refine ret_of G0F Tryd.func3 rfl Tryd.call3 (by simp) (by simp) (by simp [Tryd.ntmps3]) ?_
  intro C hC hC0 hY
  repeat' (first | refine GW_seq ?_ | simp only [List.length_cons, List.length_nil, Nat.reduceAdd, Nat.reduceMul, wN] | ((first | refine GW_region' [] (by kernel_rfl) ?_ | refine GW_draw' [] follows (by kernel_rfl) (by kernel_rfl) ?_); intro Q hQ hP; simp [hC, hY, hs, h0, h1, h2, hx, hp, hq]; (first | refine hQ _ _ _ _ ?_ | refine hQ _ _ _ _ (by kernel_rfl) ?_ | refine hP _ _ (fun _ => ?_) | refine hP _ _ (by kernel_rfl) (fun _ => ?_)); clear hQ hP Q) | refine GW_block ?_ | refine GW_ret ?_ | refine GW_skip ?_ | refine GW_exit ?_ | refine GW_goto ?_ | refine GW_label ?_ | simp only [blockG_exit] | (refine GW_cond (by simp; rfl) ?_ ?_ <;> (intro hb; first | (exfalso; exact absurd hb (by decide)) | skip)))
  refine GW_list ?_
  simp only [Array.toList]
  refine GL_walk 3 [] rfl (by simp) (by kernel_rfl) ?_; intro q hq; simp [hC, hY]; refine hq _ _ _ _ ?_; clear hq q
  simp only [wT, List.length_cons, List.length_nil, Nat.reduceAdd]
  refine GL_callL (f := .func 22) (cap := #[]) hC (drift15_nil_at 1008 (by omega) st p q) rfl (by simp) rfl rfl (by simp [okT]) (by simp [gev]) (by simp) (by simp [okX, junk]) (by simp [gev]) (by simp) (by (intro k hk; first | rfl | (simp (disch := omega) only [addB, List.mem_cons, List.not_mem_nil, or_false, upd_other, hpL_cons, hpL_nil, if_neg, updL] <;> done))) ?_ ?_
  · intro v ns hV k hk
    rw [driftR_key hV k hk]
    omega
  rintro v ns ⟨w, ⟨cb, Mb, gb, k1b, k2b, k3b, rfl, rfl⟩, rfl⟩
  refine GL_walk 6 [] rfl (by simp) (by kernel_rfl) ?_; intro q hq; simp [hC, hY, putT, updL]; refine hq _ _ _ _ ?_; clear hq q
  simp only [wT, List.length_cons, List.length_nil, Nat.reduceAdd]
  refine GL_nil ?_
  repeat' (first | refine GW_seq ?_ | simp only [List.length_cons, List.length_nil, Nat.reduceAdd, Nat.reduceMul, wN] | ((first | refine GW_region' [24] (by kernel_rfl) ?_ | refine GW_draw' [24] follows (by kernel_rfl) (by kernel_rfl) ?_); intro Q hQ hP; simp [hC, hY]; (repeat ((first | (refine heapK_mv (same_nil _ cb (fa_fx Mb gb 44) st) G0F (B := 200) (oneL_ok (fa_fx Mb gb 44)) (fun k => if k = 100 then 1008 else k) (fun k hk => if_neg (by omega)) (by simp [ren, renA, renF, ren0]) (by simp) (by simp [fa_rn]) (by simp [keys]) (by simp [keys]; rfl) ?_)); try simp [hC, hY])); (first | refine hQ _ _ _ _ ?_ | refine hQ _ _ _ _ (by kernel_rfl) ?_ | refine hP _ _ (fun _ => ?_) | refine hP _ _ (by kernel_rfl) (fun _ => ?_)); clear hQ hP Q) | refine GW_block ?_ | refine GW_ret ?_ | refine GW_skip ?_ | refine GW_exit ?_ | refine GW_goto ?_ | refine GW_label ?_ | simp only [blockG_exit] | (refine GW_cond (by simp; rfl) ?_ ?_ <;> (intro hb; first | (exfalso; exact absurd hb (by decide)) | skip)))
  refine ⟨.inr trivial, ?_⟩
  simp [Tryd.results3]
set_option maxRecDepth 8000 in
set_option maxHeartbeats 8000000 in
theorem DriftTells_big (b : Blk) (off n cap : Nat) (hb : b.fx) (hn : 20 < n) (st x0 x1 x2 x p q : Int) (hs : i64 st) (h0 : i64 x0) (h1 : i64 x1) (h2 : i64 x2) (hx : i64 x) (hp : i64 p) (hq : i64 q) :
    Fun Tryd.prog G0 3 #[.agg #[.int .i64 st, .slice (some ⟨100, off, none⟩) n cap], .agg #[.int .i64 x0, .int .i64 x1, .int .i64 x2], .int .i64 x, .int .i64 p, .int .i64 q] (hpL G0 [(100, b)]) (keys [(100, b)]) (.ret (.bool true) []) := by
  refine fun_ofL (B := 200) G0F Tryd.func3 rfl Tryd.call3 (oneL_ok hb) ?_ (by simp) (by simp) (by simp) (by simp [Tryd.ntmps3]) (by omega) ?_
  · simp [idsV, idsA, idsF, ids0, keys]
  intro C hC hC0 hY
  have hr := fun ρ => Blk.fx_rn hb ρ
  have hg : decide (20 < n) = true := decide_eq_true hn
  repeat' (first | refine GW_seq ?_ | simp only [List.length_cons, List.length_nil, Nat.reduceAdd, Nat.reduceMul, wN] | ((first | refine GW_region' [11] (by kernel_rfl) ?_ | refine GW_draw' [11] follows (by kernel_rfl) (by kernel_rfl) ?_); intro Q hQ hP; simp [hC, hY, hg, hn]; (repeat ((first | (refine heapK_mv (great_fun b off n cap hb st) G0F (B := 200) (oneL_ok hb) (fun k => k) (fun k hk => rfl) (by simp [ren, renA, renF, ren0]) (by simp) (by simp [hr]) (by simp [keys]) (by simp [keys]; rfl) ?_)); try simp [hC, hY, hg, hn])); (first | refine hQ _ _ _ _ ?_ | refine hQ _ _ _ _ (by kernel_rfl) ?_ | refine hP _ _ (fun _ => ?_) | refine hP _ _ (by kernel_rfl) (fun _ => ?_)); clear hQ hP Q) | refine GW_block ?_ | refine GW_ret ?_ | refine GW_skip ?_ | refine GW_exit ?_ | refine GW_goto ?_ | refine GW_label ?_ | simp only [blockG_exit] | (refine GW_cond (by simp; rfl) ?_ ?_ <;> (intro hb; first | (exfalso; exact absurd hb (by decide)) | skip)))
  refine ⟨.inr rfl, by simp [Tryd.results3], keep_of G0F (by simp) (by (intro k hk; first | rfl | (simp (disch := omega) only [addB, List.mem_cons, List.not_mem_nil, or_false, upd_other, hpL_cons, hpL_nil, if_neg, updL] <;> done)))⟩
set_option maxRecDepth 8000 in
set_option maxHeartbeats 16000000 in
theorem DriftTells_fun (b : Blk) (off n cap : Nat) (f : Nat → Int) (h : SB b off n f) (hcap : n ≤ cap) (hn20 : n ≤ 20) (st x0 x1 x2 x p q : Int) (hs : i64 st) (h0 : i64 x0) (h1 : i64 x1) (h2 : i64 x2) (hx : i64 x) (hp : i64 p) (hq : i64 q) :
    Fun Tryd.prog G0 3 #[.agg #[.int .i64 st, .slice (some ⟨100, off, none⟩) n cap], .agg #[.int .i64 x0, .int .i64 x1, .int .i64 x2], .int .i64 x, .int .i64 p, .int .i64 q] (hpL G0 [(100, b)]) (keys [(100, b)]) (.ret (.bool true) []) := by
  refine fun_ofL (B := 200) G0F Tryd.func3 rfl Tryd.call3 (oneL_ok h.fx) ?_ (by simp) (by simp) (by simp) (by simp [Tryd.ntmps3]) (by omega) ?_
  · simp [idsV, idsA, idsF, ids0, keys]
  intro C hC hC0 hY
  have hr := fun ρ => Blk.fx_rn h.fx ρ
  have hid := fun D => Blk.fx_ids h.fx D
  have hg : decide (20 < n) = false := decide_eq_false (by omega)
  have hgn : ¬ 20 < n := by omega
  obtain ⟨K, hK⟩ : ∃ K, (if (rightB st f n && partB p q) = true then n else 0) = K := ⟨_, rfl⟩
  have hKn : K ≤ 20 := by rw [← hK]; split <;> omega
  obtain ⟨EW, hEW⟩ : ∃ E : Int, (if (rightB st f n && partB p q) = true then (0 : Int) else 2) = E := ⟨_, rfl⟩
  have dW := dWays_at 100 784 (by omega) (by omega) (by omega) b off n cap f h st p q hs hp hq
  have dV := ways15_at 100 856 (by omega) (by omega) (by omega) b off n cap f h st p q hp hq
  have dA := drift_at 100 928 (by omega) (by omega) (by omega) b off n cap f h hcap st p q hs hp hq
  have dB := drift15_at 100 1008 (by omega) (by omega) (by omega) b off n cap f h hcap st p q hs hp hq
  have hFi := fun j hj => drF_i64 (st := st) (f := f) (n := n) (p := p) (q := q) h.i6 (j := j) hj
  obtain ⟨F, hF⟩ : ∃ F, drF st f n p q = F := ⟨_, rfl⟩
  obtain ⟨E, hE⟩ : ∃ E, drE st f n p q = E := ⟨_, rfl⟩
  rw [hF, hE] at dA dB
  rw [hF] at hFi
  repeat' (first | refine GW_seq ?_ | simp only [List.length_cons, List.length_nil, Nat.reduceAdd, Nat.reduceMul, wN] | ((first | refine GW_region' [11] (by kernel_rfl) ?_ | refine GW_draw' [11] follows (by kernel_rfl) (by kernel_rfl) ?_); intro Q hQ hP; simp [hC, hY, hg, hgn, h0, h1, h2, hx, hp, hq]; (repeat ((first | (refine heapK_mv (great_fun b off n cap h.fx st) G0F (B := 200) (oneL_ok h.fx) (fun k => k) (fun k hk => rfl) (by simp [ren, renA, renF, ren0]) (by simp) (by simp [hr]) (by simp [keys]) (by simp [keys]; rfl) ?_)); try simp [hC, hY, hg, hgn, h0, h1, h2, hx, hp, hq])); (first | refine hQ _ _ _ _ ?_ | refine hQ _ _ _ _ (by kernel_rfl) ?_ | refine hP _ _ (fun _ => ?_) | refine hP _ _ (by kernel_rfl) (fun _ => ?_)); clear hQ hP Q) | refine GW_block ?_ | refine GW_ret ?_ | refine GW_skip ?_ | refine GW_exit ?_ | refine GW_goto ?_ | refine GW_label ?_ | simp only [blockG_exit] | (refine GW_cond (by simp; rfl) ?_ ?_ <;> (intro hb; first | (exfalso; exact absurd hb (by decide)) | skip)))
  refine GW_list ?_
  simp only [Array.toList]
  refine GL_walk 3 [] rfl (by simp) (by kernel_rfl) ?_; intro q hq; simp [hC, hY]; refine hq _ _ _ _ ?_; clear hq q
  simp only [wT, List.length_cons, List.length_nil, Nat.reduceAdd]
  refine GL_callL (f := .func 19) (cap := #[]) hC dW rfl (by simp) rfl rfl (by simp [okT]) (by simp [gev]) (by simp) (by simp [okX, junk]) (by simp [gev]) (by simp) (by (intro k hk; first | rfl | (simp (disch := omega) only [addB, List.mem_cons, List.not_mem_nil, or_false, upd_other, hpL_cons, hpL_nil, if_neg, updL] <;> done))) ?_ ?_
  · rintro v ns ⟨w, hV, rfl⟩ k hk
    rw [vecR_key hV k hk]
    omega
  rintro v ns ⟨w, hV, rfl⟩
  rw [hK] at hV
  rw [hEW]
  rcases hV with ⟨hK0, rfl, rfl⟩ | ⟨cd, gd, kd0, kd1, kd2, rfl, rfl⟩
  ·
    refine GL_walk 5 [] rfl (by simp) (by kernel_rfl) ?_; intro q hq; simp [hC, hY, putT, updL]; refine hq _ _ _ _ ?_; clear hq q
    simp only [wT, List.length_cons, List.length_nil, Nat.reduceAdd]
    refine GL_nil ?_
    repeat' (first | refine GW_seq ?_ | simp only [List.length_cons, List.length_nil, Nat.reduceAdd, Nat.reduceMul, wN] | ((first | refine GW_region' [] (by kernel_rfl) ?_ | refine GW_draw' [] follows (by kernel_rfl) (by kernel_rfl) ?_); intro Q hQ hP; simp [hC, hY]; (first | refine hQ _ _ _ _ ?_ | refine hQ _ _ _ _ (by kernel_rfl) ?_ | refine hP _ _ (fun _ => ?_) | refine hP _ _ (by kernel_rfl) (fun _ => ?_)); clear hQ hP Q) | refine GW_block ?_ | refine GW_ret ?_ | refine GW_skip ?_ | refine GW_exit ?_ | refine GW_goto ?_ | refine GW_label ?_ | simp only [blockG_exit] | (refine GW_cond (by simp; rfl) ?_ ?_ <;> (intro hb; first | (exfalso; exact absurd hb (by decide)) | skip)))
    refine GW_list ?_
    simp only [Array.toList]
    refine GL_walk 3 [] rfl (by simp) (by kernel_rfl) ?_; intro q hq; simp [hC, hY]; refine hq _ _ _ _ ?_; clear hq q
    simp only [wT, List.length_cons, List.length_nil, Nat.reduceAdd]
    refine GL_callL (f := .func 20) (cap := #[]) hC dV rfl (by simp) rfl rfl (by simp [okT]) (by simp [gev]) (by simp) (by simp [okX, junk]) (by simp [gev]) (by simp) (by (intro k hk; first | rfl | (simp (disch := omega) only [addB, List.mem_cons, List.not_mem_nil, or_false, upd_other, hpL_cons, hpL_nil, if_neg, updL] <;> done))) ?_ ?_
    · rintro v ns ⟨w, hV, rfl⟩ k hk
      rw [vecR_key hV k hk]
      omega
    rintro v ns ⟨w, hV, rfl⟩
    rw [hK] at hV
    rw [hEW]
    rcases hV with ⟨_, rfl, rfl⟩ | ⟨ce, ge, ke0, _⟩
    rotate_left
    · omega
    refine GL_walk 5 [] rfl (by simp) (by kernel_rfl) ?_; intro q hq; simp [hC, hY, putT, updL]; refine hq _ _ _ _ ?_; clear hq q
    simp only [wT, List.length_cons, List.length_nil, Nat.reduceAdd]
    refine GL_nil ?_
    repeat' (first | refine GW_seq ?_ | simp only [List.length_cons, List.length_nil, Nat.reduceAdd, Nat.reduceMul, wN] | ((first | refine GW_region' [] (by kernel_rfl) ?_ | refine GW_draw' [] follows (by kernel_rfl) (by kernel_rfl) ?_); intro Q hQ hP; simp [hC, hY]; (first | refine hQ _ _ _ _ ?_ | refine hQ _ _ _ _ (by kernel_rfl) ?_ | refine hP _ _ (fun _ => ?_) | refine hP _ _ (by kernel_rfl) (fun _ => ?_)); clear hQ hP Q) | refine GW_block ?_ | refine GW_ret ?_ | refine GW_skip ?_ | refine GW_exit ?_ | refine GW_goto ?_ | refine GW_label ?_ | simp only [blockG_exit] | (refine GW_cond (by simp; rfl) ?_ ?_ <;> (intro hb; first | (exfalso; exact absurd hb (by decide)) | skip)))
    refine GW_list ?_
    simp only [Array.toList]
    refine GL_walk 3 [] rfl (by simp) (by kernel_rfl) ?_; intro q hq; simp [hC, hY]; refine hq _ _ _ _ ?_; clear hq q
    simp only [wT, List.length_cons, List.length_nil, Nat.reduceAdd]
    refine GL_callL (f := .func 21) (cap := #[]) hC dA rfl (by simp) rfl rfl (by simp [okT]) (by simp [gev]) (by simp) (by simp [okX, junk]) (by simp [gev]) (by simp) (by (intro k hk; first | rfl | (simp (disch := omega) only [addB, List.mem_cons, List.not_mem_nil, or_false, upd_other, hpL_cons, hpL_nil, if_neg, updL] <;> done))) ?_ ?_
    · intro v ns hV k hk
      rw [driftR_key hV k hk]
      omega
    rintro v ns ⟨w, ⟨ca, Ma, ga, k1a, k2a, k3a, rfl, rfl⟩, rfl⟩
    refine GL_walk 6 [] rfl (by simp) (by kernel_rfl) ?_; intro q hq; simp [hC, hY, putT, updL]; refine hq _ _ _ _ ?_; clear hq q
    simp only [wT, List.length_cons, List.length_nil, Nat.reduceAdd]
    refine GL_nil ?_
    repeat' (first | refine GW_seq ?_ | simp only [List.length_cons, List.length_nil, Nat.reduceAdd, Nat.reduceMul, wN] | ((first | refine GW_region' [] (by kernel_rfl) ?_ | refine GW_draw' [] follows (by kernel_rfl) (by kernel_rfl) ?_); intro Q hQ hP; simp [hC, hY]; (first | refine hQ _ _ _ _ ?_ | refine hQ _ _ _ _ (by kernel_rfl) ?_ | refine hP _ _ (fun _ => ?_) | refine hP _ _ (by kernel_rfl) (fun _ => ?_)); clear hQ hP Q) | refine GW_block ?_ | refine GW_ret ?_ | refine GW_skip ?_ | refine GW_exit ?_ | refine GW_goto ?_ | refine GW_label ?_ | simp only [blockG_exit] | (refine GW_cond (by simp; rfl) ?_ ?_ <;> (intro hb; first | (exfalso; exact absurd hb (by decide)) | skip)))
    refine GW_list ?_
    simp only [Array.toList]
    refine GL_walk 3 [] rfl (by simp) (by kernel_rfl) ?_; intro q hq; simp [hC, hY]; refine hq _ _ _ _ ?_; clear hq q
    simp only [wT, List.length_cons, List.length_nil, Nat.reduceAdd]
    refine GL_callL (f := .func 22) (cap := #[]) hC dB rfl (by simp) rfl rfl (by simp [okT]) (by simp [gev]) (by simp) (by simp [okX, junk]) (by simp [gev]) (by simp) (by (intro k hk; first | rfl | (simp (disch := omega) only [addB, List.mem_cons, List.not_mem_nil, or_false, upd_other, hpL_cons, hpL_nil, if_neg, updL] <;> done))) ?_ ?_
    · intro v ns hV k hk
      rw [driftR_key hV k hk]
      omega
    rintro v ns ⟨w, ⟨cb, Mb, gb, k1b, k2b, k3b, rfl, rfl⟩, rfl⟩
    refine GL_walk 6 [] rfl (by simp) (by kernel_rfl) ?_; intro q hq; simp [hC, hY, putT, updL]; refine hq _ _ _ _ ?_; clear hq q
    simp only [wT, List.length_cons, List.length_nil, Nat.reduceAdd]
    refine GL_nil ?_
    have hSa := own_sb k2a k3a hFi (by omega)
    have hSb := own_sb k2b k3b hFi (by omega)
    have hsame : sameB st st n n F F = true := sameB_iff.2 ⟨rfl, rfl, fun _ _ => rfl⟩
    repeat' (first | refine GW_seq ?_ | simp only [List.length_cons, List.length_nil, Nat.reduceAdd, Nat.reduceMul, wN] | ((first | refine GW_region' [24] (by kernel_rfl) ?_ | refine GW_draw' [24] follows (by kernel_rfl) (by kernel_rfl) ?_); intro Q hQ hP; simp [hC, hY, hsame]; (repeat ((first | (refine heapK_mv (same_fun _ _ 0 0 n n ca cb F F hSa hSb st st) G0F (B := 200) (smL_ok hSa.fx hSb.fx) (fun k => if k = 100 then 928 else if k = 108 then 1008 else k) (fun k hk => (if_neg (by omega)).trans (if_neg (by omega))) (by simp [ren, renA, renF, ren0]) (by simp) (by simp [smL, fa_rn]) (by simp [keys, smL]) (by simp [keys, smL]; rfl) ?_)); try simp [hC, hY, hsame])); (first | refine hQ _ _ _ _ ?_ | refine hQ _ _ _ _ (by kernel_rfl) ?_ | refine hP _ _ (fun _ => ?_) | refine hP _ _ (by kernel_rfl) (fun _ => ?_)); clear hQ hP Q) | refine GW_block ?_ | refine GW_ret ?_ | refine GW_skip ?_ | refine GW_exit ?_ | refine GW_goto ?_ | refine GW_label ?_ | simp only [blockG_exit] | (refine GW_cond (by simp; rfl) ?_ ?_ <;> (intro hb; first | (exfalso; exact absurd hb (by decide)) | skip)))
    refine ⟨.inr rfl, by simp [Tryd.results3], keep_of G0F (by simp) (by (intro k hk; first | rfl | (simp (disch := omega) only [addB, List.mem_cons, List.not_mem_nil, or_false, upd_other, hpL_cons, hpL_nil, if_neg, updL] <;> done)))⟩
  ·
    refine GL_walk 5 [] rfl (by simp) (by kernel_rfl) ?_; intro q hq; simp [hC, hY, putT, updL]; refine hq _ _ _ _ ?_; clear hq q
    simp only [wT, List.length_cons, List.length_nil, Nat.reduceAdd]
    refine GL_nil ?_
    repeat' (first | refine GW_seq ?_ | simp only [List.length_cons, List.length_nil, Nat.reduceAdd, Nat.reduceMul, wN] | ((first | refine GW_region' [] (by kernel_rfl) ?_ | refine GW_draw' [] follows (by kernel_rfl) (by kernel_rfl) ?_); intro Q hQ hP; simp [hC, hY]; (first | refine hQ _ _ _ _ ?_ | refine hQ _ _ _ _ (by kernel_rfl) ?_ | refine hP _ _ (fun _ => ?_) | refine hP _ _ (by kernel_rfl) (fun _ => ?_)); clear hQ hP Q) | refine GW_block ?_ | refine GW_ret ?_ | refine GW_skip ?_ | refine GW_exit ?_ | refine GW_goto ?_ | refine GW_label ?_ | simp only [blockG_exit] | (refine GW_cond (by simp; rfl) ?_ ?_ <;> (intro hb; first | (exfalso; exact absurd hb (by decide)) | skip)))
    refine GW_list ?_
    simp only [Array.toList]
    refine GL_walk 3 [] rfl (by simp) (by kernel_rfl) ?_; intro q hq; simp [hC, hY]; refine hq _ _ _ _ ?_; clear hq q
    simp only [wT, List.length_cons, List.length_nil, Nat.reduceAdd]
    refine GL_callL (f := .func 20) (cap := #[]) hC dV rfl (by simp) rfl rfl (by simp [okT]) (by simp [gev]) (by simp) (by simp [okX, junk]) (by simp [gev]) (by simp) (by (intro k hk; first | rfl | (simp (disch := omega) only [addB, List.mem_cons, List.not_mem_nil, or_false, upd_other, hpL_cons, hpL_nil, if_neg, updL] <;> done))) ?_ ?_
    · rintro v ns ⟨w, hV, rfl⟩ k hk
      rw [vecR_key hV k hk]
      omega
    rintro v ns ⟨w, hV, rfl⟩
    rw [hK] at hV
    rw [hEW]
    rcases hV with ⟨_, _⟩ | ⟨ce, ge, ke0, ke1, ke2, rfl, rfl⟩
    · omega
    refine GL_walk 5 [] rfl (by simp) (by kernel_rfl) ?_; intro q hq; simp [hC, hY, putT, updL]; refine hq _ _ _ _ ?_; clear hq q
    simp only [wT, List.length_cons, List.length_nil, Nat.reduceAdd]
    refine GL_nil ?_
    repeat' (first | refine GW_seq ?_ | simp only [List.length_cons, List.length_nil, Nat.reduceAdd, Nat.reduceMul, wN] | ((first | refine GW_region' [] (by kernel_rfl) ?_ | refine GW_draw' [] follows (by kernel_rfl) (by kernel_rfl) ?_); intro Q hQ hP; simp [hC, hY]; (first | refine hQ _ _ _ _ ?_ | refine hQ _ _ _ _ (by kernel_rfl) ?_ | refine hP _ _ (fun _ => ?_) | refine hP _ _ (by kernel_rfl) (fun _ => ?_)); clear hQ hP Q) | refine GW_block ?_ | refine GW_ret ?_ | refine GW_skip ?_ | refine GW_exit ?_ | refine GW_goto ?_ | refine GW_label ?_ | simp only [blockG_exit] | (refine GW_cond (by simp; rfl) ?_ ?_ <;> (intro hb; first | (exfalso; exact absurd hb (by decide)) | skip)))
    refine GW_list ?_
    simp only [Array.toList]
    refine GL_walk 3 [] rfl (by simp) (by kernel_rfl) ?_; intro q hq; simp [hC, hY]; refine hq _ _ _ _ ?_; clear hq q
    simp only [wT, List.length_cons, List.length_nil, Nat.reduceAdd]
    refine GL_callL (f := .func 21) (cap := #[]) hC dA rfl (by simp) rfl rfl (by simp [okT]) (by simp [gev]) (by simp) (by simp [okX, junk]) (by simp [gev]) (by simp) (by (intro k hk; first | rfl | (simp (disch := omega) only [addB, List.mem_cons, List.not_mem_nil, or_false, upd_other, hpL_cons, hpL_nil, if_neg, updL] <;> done))) ?_ ?_
    · intro v ns hV k hk
      rw [driftR_key hV k hk]
      omega
    rintro v ns ⟨w, ⟨ca, Ma, ga, k1a, k2a, k3a, rfl, rfl⟩, rfl⟩
    refine GL_walk 6 [] rfl (by simp) (by kernel_rfl) ?_; intro q hq; simp [hC, hY, putT, updL]; refine hq _ _ _ _ ?_; clear hq q
    simp only [wT, List.length_cons, List.length_nil, Nat.reduceAdd]
    refine GL_nil ?_
    repeat' (first | refine GW_seq ?_ | simp only [List.length_cons, List.length_nil, Nat.reduceAdd, Nat.reduceMul, wN] | ((first | refine GW_region' [] (by kernel_rfl) ?_ | refine GW_draw' [] follows (by kernel_rfl) (by kernel_rfl) ?_); intro Q hQ hP; simp [hC, hY]; (first | refine hQ _ _ _ _ ?_ | refine hQ _ _ _ _ (by kernel_rfl) ?_ | refine hP _ _ (fun _ => ?_) | refine hP _ _ (by kernel_rfl) (fun _ => ?_)); clear hQ hP Q) | refine GW_block ?_ | refine GW_ret ?_ | refine GW_skip ?_ | refine GW_exit ?_ | refine GW_goto ?_ | refine GW_label ?_ | simp only [blockG_exit] | (refine GW_cond (by simp; rfl) ?_ ?_ <;> (intro hb; first | (exfalso; exact absurd hb (by decide)) | skip)))
    refine GW_list ?_
    simp only [Array.toList]
    refine GL_walk 3 [] rfl (by simp) (by kernel_rfl) ?_; intro q hq; simp [hC, hY]; refine hq _ _ _ _ ?_; clear hq q
    simp only [wT, List.length_cons, List.length_nil, Nat.reduceAdd]
    refine GL_callL (f := .func 22) (cap := #[]) hC dB rfl (by simp) rfl rfl (by simp [okT]) (by simp [gev]) (by simp) (by simp [okX, junk]) (by simp [gev]) (by simp) (by (intro k hk; first | rfl | (simp (disch := omega) only [addB, List.mem_cons, List.not_mem_nil, or_false, upd_other, hpL_cons, hpL_nil, if_neg, updL] <;> done))) ?_ ?_
    · intro v ns hV k hk
      rw [driftR_key hV k hk]
      omega
    rintro v ns ⟨w, ⟨cb, Mb, gb, k1b, k2b, k3b, rfl, rfl⟩, rfl⟩
    refine GL_walk 6 [] rfl (by simp) (by kernel_rfl) ?_; intro q hq; simp [hC, hY, putT, updL]; refine hq _ _ _ _ ?_; clear hq q
    simp only [wT, List.length_cons, List.length_nil, Nat.reduceAdd]
    refine GL_nil ?_
    have hSa := own_sb k2a k3a hFi (by omega)
    have hSb := own_sb k2b k3b hFi (by omega)
    have hsame : sameB st st n n F F = true := sameB_iff.2 ⟨rfl, rfl, fun _ _ => rfl⟩
    repeat' (first | refine GW_seq ?_ | simp only [List.length_cons, List.length_nil, Nat.reduceAdd, Nat.reduceMul, wN] | ((first | refine GW_region' [23, 24] (by kernel_rfl) ?_ | refine GW_draw' [23, 24] follows (by kernel_rfl) (by kernel_rfl) ?_); intro Q hQ hP; simp [hC, hY, hsame]; (repeat ((first | (refine heapK_mv (vecs_fun K cd ce gd ge (by omega) kd1 ke1 (fun j hj => (kd2 j hj).trans (ke2 j hj).symm)) G0F (B := 200) (vcL_ok cd ce gd ge) (fun k => if k = 100 then 784 else if k = 108 then 856 else k) (fun k hk => (if_neg (by omega)).trans (if_neg (by omega))) (by simp [ren, renA, renF, ren0]) (by simp) (by simp [vcL, fa_rn]) (by simp [keys, vcL]) (by simp [keys, vcL]; rfl) ?_) | (refine heapK_mv (same_fun _ _ 0 0 n n ca cb F F hSa hSb st st) G0F (B := 200) (smL_ok hSa.fx hSb.fx) (fun k => if k = 100 then 928 else if k = 108 then 1008 else k) (fun k hk => (if_neg (by omega)).trans (if_neg (by omega))) (by simp [ren, renA, renF, ren0]) (by simp) (by simp [smL, fa_rn]) (by simp [keys, smL]) (by simp [keys, smL]; rfl) ?_)); try simp [hC, hY, hsame])); (first | refine hQ _ _ _ _ ?_ | refine hQ _ _ _ _ (by kernel_rfl) ?_ | refine hP _ _ (fun _ => ?_) | refine hP _ _ (by kernel_rfl) (fun _ => ?_)); clear hQ hP Q) | refine GW_block ?_ | refine GW_ret ?_ | refine GW_skip ?_ | refine GW_exit ?_ | refine GW_goto ?_ | refine GW_label ?_ | simp only [blockG_exit] | (refine GW_cond (by simp; rfl) ?_ ?_ <;> (intro hb; first | (exfalso; exact absurd hb (by decide)) | skip)))
    refine ⟨.inr rfl, by simp [Tryd.results3], keep_of G0F (by simp) (by (intro k hk; first | rfl | (simp (disch := omega) only [addB, List.mem_cons, List.not_mem_nil, or_false, upd_other, hpL_cons, hpL_nil, if_neg, updL] <;> done)))⟩
end Go.Gy
namespace Go.Gy
set_option linter.unusedSimpArgs false
set_option linter.unusedVariables false
open Go Go.RowKit Go.Proofs
/-! back -/
theorem mv_v (f : Nat → Int) (p q : Int) (i u : Nat) (h1 : 3 ≤ u) (h2 : u < 6) : mvF f p q (6 * i + u) = f (6 * i + u) := by
  unfold mvF
  rw [if_neg (by omega)]
theorem mv_x (f : Nat → Int) (p q : Int) (i u : Nat) (h : u < 3) : mvF f p q (6 * i + u) = f (6 * i + u) + dwV f p q i u := by
  unfold mvF
  rw [if_pos (by omega), show (6 * i + u) / 6 = i by omega, show (6 * i + u) % 6 = u by omega]
theorem part_neg {n d : Int} (h : partB n d = true) : partB (-n) d = true := by
  have := partB_t h
  unfold partB
  exact decide_eq_true (by omega)
theorem mv_right {st : Int} {f : Nat → Int} {n : Nat} {p q : Int} (h : rightB st f n = true) (hk : ∀ i, i < n → okB f p q i = true) : rightB st (mvF f p q) n = true := by
  obtain ⟨h1, h2, h3⟩ := right_n h
  unfold rightB stB
  rw [decide_eq_true h1, decide_eq_true h2, Bool.true_and, Bool.true_and, allB_iff]
  intro i hi
  have hv := (right_b h hi).2
  have hx := hk i hi
  unfold okB at hx
  unfold inB
  have e0 := mv_x f p q i 0 (by omega)
  rw [Nat.add_zero] at e0
  rw [e0, mv_x f p q i 1 (by omega), mv_x f p q i 2 (by omega), mv_v f p q i 3 (by omega) (by omega), mv_v f p q i 4 (by omega) (by omega), mv_v f p q i 5 (by omega) (by omega), hx, Bool.true_and]
  exact inV_iff.2 hv
theorem back_dwV {st : Int} {f : Nat → Int} {n : Nat} {p q : Int} (h : rightB st f n = true) (hp : partB p q = true) (hk : ∀ i, i < n → okB f p q i = true) {i : Nat} (hi : i < n) {u : Nat} (hu : u < 3) : dwV (mvF f p q) (-p) q i u = -dwV f p q i u := by
  have d0 : 0 < q := by have := partB_t hp; omega
  rw [right_dwV (mv_right h hk) (part_neg hp) hi hu, right_dwV h hp hi hu, show 6 * i + 3 + u = 6 * i + (3 + u) by omega, mv_v f p q i (3 + u) (by omega) (by omega), Int.mul_neg, nearQ_neg d0]
theorem back_ok {st : Int} {f : Nat → Int} {n : Nat} {p q : Int} (h : rightB st f n = true) (hp : partB p q = true) (hk : ∀ i, i < n → okB f p q i = true) {i : Nat} (hi : i < n) : okB (mvF f p q) (-p) q i = true := by
  have e0 := mv_x f p q i 0 (by omega)
  rw [Nat.add_zero] at e0
  unfold okB
  rw [back_dwV h hp hk hi (by omega), back_dwV h hp hk hi (by omega), back_dwV h hp hk hi (by omega), e0, mv_x f p q i 1 (by omega), mv_x f p q i 2 (by omega), Int.add_neg_cancel_right, Int.add_neg_cancel_right, Int.add_neg_cancel_right]
  exact inV_iff.2 (right_b h hi).1
theorem back_E {st : Int} {f : Nat → Int} {n : Nat} {p q : Int} (h : rightB st f n = true) (hp : partB p q = true) (hk : ∀ i, i < n → okB f p q i = true) : drE st (mvF f p q) n (-p) q = 0 := drE_ok (mv_right h hk) (part_neg hp) fun i hi => back_ok h hp hk hi
theorem back_F {st : Int} {f : Nat → Int} {n : Nat} {p q : Int} (h : rightB st f n = true) (hp : partB p q = true) (hk : ∀ i, i < n → okB f p q i = true) {j : Nat} (hj : j < 6 * n) : drF st (mvF f p q) n (-p) q j = f j := by
  rw [drF_0 (back_E h hp hk)]
  have hd : 6 * (j / 6) + j % 6 = j := by omega
  by_cases c : j % 6 < 3
  · have e1 := mv_x (mvF f p q) (-p) q (j / 6) (j % 6) c
    have e2 := mv_x f p q (j / 6) (j % 6) c
    rw [hd] at e1 e2
    rw [e1, e2, back_dwV h hp hk (by omega) c, Int.add_neg_cancel_right]
  · have e1 := mv_v (mvF f p q) (-p) q (j / 6) (j % 6) (by omega) (by omega)
    have e2 := mv_v f p q (j / 6) (j % 6) (by omega) (by omega)
    rw [hd] at e1 e2
    rw [e1, e2]
set_option maxRecDepth 8000 in
set_option maxHeartbeats 8000000 in
theorem DriftBack_nil (st p q : Int) (hs : i64 st) (hp : i64 p) (hq : i64 q) : Ret Tryd.prog G0 4 #[.agg #[.int .i64 st, .slice none 0 0], .int .i64 p, .int .i64 q] (.bool true) := by
  refine ret_of G0F Tryd.func4 rfl Tryd.call4 (by simp) (by simp) (by simp [Tryd.ntmps4]) ?_
  intro C hC hC0 hY
  repeat' (first | refine GW_seq ?_ | simp only [List.length_cons, List.length_nil, Nat.reduceAdd, Nat.reduceMul, wN] | ((first | refine GW_region' [] (by kernel_rfl) ?_ | refine GW_draw' [] follows (by kernel_rfl) (by kernel_rfl) ?_); intro Q hQ hP; simp [hC, hY, hs, hp, hq]; (first | refine hQ _ _ _ _ ?_ | refine hQ _ _ _ _ (by kernel_rfl) ?_ | refine hP _ _ (fun _ => ?_) | refine hP _ _ (by kernel_rfl) (fun _ => ?_)); clear hQ hP Q) | refine GW_block ?_ | refine GW_ret ?_ | refine GW_skip ?_ | refine GW_exit ?_ | refine GW_goto ?_ | refine GW_label ?_ | simp only [blockG_exit] | (refine GW_cond (by simp; rfl) ?_ ?_ <;> (intro hb; first | (exfalso; exact absurd hb (by decide)) | skip)))
  refine ⟨.inr trivial, ?_⟩
  simp [Tryd.results4]
def dbSt (b : Blk) (st : Int) (off n cap c M : Nat) (g : Nat → Int) (i : Nat) : GS :=
  ⟨tsL [(3, .pointer (some ⟨200, 0, none⟩)), (9, .pointer (some ⟨344, 0, none⟩)), (13, .int .i64 i)],
   hpL G0 [(100, b), (200, stB' st 100 off n cap), (312, ⟨fa M .i64 g, .ty 44⟩), (344, stB' st 312 0 n c)], 800, 0⟩
set_option maxRecDepth 8000 in
set_option maxHeartbeats 8000000 in
theorem DriftBack_fun (b : Blk) (off n cap : Nat) (f : Nat → Int) (h : SB b off n f) (hcap : n ≤ cap) (st p q : Int) (hs : i64 st) (hp : i64 p) (hq : i64 q) :
    Fun Tryd.prog G0 4 #[.agg #[.int .i64 st, .slice (some ⟨100, off, none⟩) n cap], .int .i64 p, .int .i64 q] (hpL G0 [(100, b)]) (keys [(100, b)]) (.ret (.bool true) []) := by
  refine fun_ofL (B := 200) G0F Tryd.func4 rfl Tryd.call4 (oneL_ok h.fx) ?_ (by simp) (by simp) (by simp) (by simp [Tryd.ntmps4]) (by omega) ?_
  · simp [idsV, idsA, idsF, ids0, keys]
  intro C hC hC0 hY
  have hr := fun ρ => Blk.fx_rn h.fx ρ
  have hid := fun D => Blk.fx_ids h.fx D
  have hnn := h.nn
  have dA := drift_at 100 312 (by omega) (by omega) (by omega) b off n cap f h hcap st p q hs hp hq
  cases c0 : rightB st f n with
  | false =>
    have hE : drE st f n p q = 2 := by unfold drE; rw [c0]; rfl
    rw [hE] at dA
    repeat' (first | refine GW_seq ?_ | simp only [List.length_cons, List.length_nil, Nat.reduceAdd, Nat.reduceMul, wN] | ((first | refine GW_region' [25] (by kernel_rfl) ?_ | refine GW_draw' [25] follows (by kernel_rfl) (by kernel_rfl) ?_); intro Q hQ hP; simp [hC, hY, c0]; (repeat ((first | (refine heapK_mv (rig10_fun b off n cap f h st) G0F (B := 200) (oneL_ok h.fx) (fun k => k) (fun k hk => rfl) (by simp [ren, renA, renF, ren0]) (by simp) (by simp [hr]) (by simp [keys]) (by simp [keys]; rfl) ?_)); try simp [hC, hY, c0])); (first | refine hQ _ _ _ _ ?_ | refine hQ _ _ _ _ (by kernel_rfl) ?_ | refine hP _ _ (fun _ => ?_) | refine hP _ _ (by kernel_rfl) (fun _ => ?_)); clear hQ hP Q) | refine GW_block ?_ | refine GW_ret ?_ | refine GW_skip ?_ | refine GW_exit ?_ | refine GW_goto ?_ | refine GW_label ?_ | simp only [blockG_exit] | (refine GW_cond (by simp; rfl) ?_ ?_ <;> (intro hb; first | (exfalso; exact absurd hb (by decide)) | skip)))
    refine GW_list ?_
    simp only [Array.toList]
    refine GL_walk 3 [] rfl (by simp) (by kernel_rfl) ?_; intro q hq; simp [hC, hY]; refine hq _ _ _ _ ?_; clear hq q
    simp only [wT, List.length_cons, List.length_nil, Nat.reduceAdd]
    refine GL_callL (f := .func 21) (cap := #[]) hC dA rfl (by simp) rfl rfl (by simp [okT]) (by simp [gev]) (by simp) (by simp [okX, junk]) (by simp [gev]) (by simp) (by (intro k hk; first | rfl | (simp (disch := omega) only [addB, List.mem_cons, List.not_mem_nil, or_false, upd_other, hpL_cons, hpL_nil, if_neg, updL] <;> done))) ?_ ?_
    · intro v ns hV k hk
      rw [driftR_key hV k hk]
      omega
    rintro v ns ⟨w, ⟨ca, Ma, ga, k1a, k2a, k3a, rfl, rfl⟩, rfl⟩
    refine GL_walk 6 [] rfl (by simp) (by kernel_rfl) ?_; intro q hq; simp [hC, hY, putT, updL]; refine hq _ _ _ _ ?_; clear hq q
    simp only [wT, List.length_cons, List.length_nil, Nat.reduceAdd]
    refine GL_nil ?_
    repeat' (first | refine GW_seq ?_ | simp only [List.length_cons, List.length_nil, Nat.reduceAdd, Nat.reduceMul, wN] | ((first | refine GW_region' [] (by kernel_rfl) ?_ | refine GW_draw' [] follows (by kernel_rfl) (by kernel_rfl) ?_); intro Q hQ hP; simp [hC, hY]; (first | refine hQ _ _ _ _ ?_ | refine hQ _ _ _ _ (by kernel_rfl) ?_ | refine hP _ _ (fun _ => ?_) | refine hP _ _ (by kernel_rfl) (fun _ => ?_)); clear hQ hP Q) | refine GW_block ?_ | refine GW_ret ?_ | refine GW_skip ?_ | refine GW_exit ?_ | refine GW_goto ?_ | refine GW_label ?_ | simp only [blockG_exit] | (refine GW_cond (by simp; rfl) ?_ ?_ <;> (intro hb; first | (exfalso; exact absurd hb (by decide)) | skip)))
    refine ⟨.inr rfl, by simp [Tryd.results4], keep_of G0F (by simp) (by (intro k hk; first | rfl | (simp (disch := omega) only [addB, List.mem_cons, List.not_mem_nil, or_false, upd_other, hpL_cons, hpL_nil, if_neg, updL] <;> done)))⟩
  | true =>
    cases c1 : partB p q with
    | false =>
      have hE : drE st f n p q = 2 := by unfold drE; rw [c0, c1]; rfl
      rw [hE] at dA
      repeat' (first | refine GW_seq ?_ | simp only [List.length_cons, List.length_nil, Nat.reduceAdd, Nat.reduceMul, wN] | ((first | refine GW_region' [25] (by kernel_rfl) ?_ | refine GW_draw' [25] follows (by kernel_rfl) (by kernel_rfl) ?_); intro Q hQ hP; simp [hC, hY, c0, c1]; (repeat ((first | (refine heapK_mv (rig10_fun b off n cap f h st) G0F (B := 200) (oneL_ok h.fx) (fun k => k) (fun k hk => rfl) (by simp [ren, renA, renF, ren0]) (by simp) (by simp [hr]) (by simp [keys]) (by simp [keys]; rfl) ?_)); try simp [hC, hY, c0, c1])); (first | refine hQ _ _ _ _ ?_ | refine hQ _ _ _ _ (by kernel_rfl) ?_ | refine hP _ _ (fun _ => ?_) | refine hP _ _ (by kernel_rfl) (fun _ => ?_)); clear hQ hP Q) | refine GW_block ?_ | refine GW_ret ?_ | refine GW_skip ?_ | refine GW_exit ?_ | refine GW_goto ?_ | refine GW_label ?_ | simp only [blockG_exit] | (refine GW_cond (by simp; rfl) ?_ ?_ <;> (intro hb; first | (exfalso; exact absurd hb (by decide)) | skip)))
      refine GW_list ?_
      simp only [Array.toList]
      refine GL_walk 3 [] rfl (by simp) (by kernel_rfl) ?_; intro q hq; simp [hC, hY]; refine hq _ _ _ _ ?_; clear hq q
      simp only [wT, List.length_cons, List.length_nil, Nat.reduceAdd]
      refine GL_callL (f := .func 21) (cap := #[]) hC dA rfl (by simp) rfl rfl (by simp [okT]) (by simp [gev]) (by simp) (by simp [okX, junk]) (by simp [gev]) (by simp) (by (intro k hk; first | rfl | (simp (disch := omega) only [addB, List.mem_cons, List.not_mem_nil, or_false, upd_other, hpL_cons, hpL_nil, if_neg, updL] <;> done))) ?_ ?_
      · intro v ns hV k hk
        rw [driftR_key hV k hk]
        omega
      rintro v ns ⟨w, ⟨ca, Ma, ga, k1a, k2a, k3a, rfl, rfl⟩, rfl⟩
      refine GL_walk 6 [] rfl (by simp) (by kernel_rfl) ?_; intro q hq; simp [hC, hY, putT, updL]; refine hq _ _ _ _ ?_; clear hq q
      simp only [wT, List.length_cons, List.length_nil, Nat.reduceAdd]
      refine GL_nil ?_
      repeat' (first | refine GW_seq ?_ | simp only [List.length_cons, List.length_nil, Nat.reduceAdd, Nat.reduceMul, wN] | ((first | refine GW_region' [] (by kernel_rfl) ?_ | refine GW_draw' [] follows (by kernel_rfl) (by kernel_rfl) ?_); intro Q hQ hP; simp [hC, hY]; (first | refine hQ _ _ _ _ ?_ | refine hQ _ _ _ _ (by kernel_rfl) ?_ | refine hP _ _ (fun _ => ?_) | refine hP _ _ (by kernel_rfl) (fun _ => ?_)); clear hQ hP Q) | refine GW_block ?_ | refine GW_ret ?_ | refine GW_skip ?_ | refine GW_exit ?_ | refine GW_goto ?_ | refine GW_label ?_ | simp only [blockG_exit] | (refine GW_cond (by simp; rfl) ?_ ?_ <;> (intro hb; first | (exfalso; exact absurd hb (by decide)) | skip)))
      refine ⟨.inr rfl, by simp [Tryd.results4], keep_of G0F (by simp) (by (intro k hk; first | rfl | (simp (disch := omega) only [addB, List.mem_cons, List.not_mem_nil, or_false, upd_other, hpL_cons, hpL_nil, if_neg, updL] <;> done)))⟩
    | true =>
      rcases drE_0 c0 c1 with ⟨hE, hok⟩ | hE
      · have hFi : ∀ j, j < 6 * n → i64 (mvF f p q j) := fun j hj => by
          have := drF_i64 (st := st) (f := f) (n := n) (p := p) (q := q) h.i6 hj
          rwa [drF_0 hE] at this
        rw [hE, drF_0 hE] at dA
        repeat' (first | refine GW_seq ?_ | simp only [List.length_cons, List.length_nil, Nat.reduceAdd, Nat.reduceMul, wN] | ((first | refine GW_region' [25] (by kernel_rfl) ?_ | refine GW_draw' [25] follows (by kernel_rfl) (by kernel_rfl) ?_); intro Q hQ hP; simp [hC, hY, c0, c1]; (repeat ((first | (refine heapK_mv (rig10_fun b off n cap f h st) G0F (B := 200) (oneL_ok h.fx) (fun k => k) (fun k hk => rfl) (by simp [ren, renA, renF, ren0]) (by simp) (by simp [hr]) (by simp [keys]) (by simp [keys]; rfl) ?_)); try simp [hC, hY, c0, c1])); (first | refine hQ _ _ _ _ ?_ | refine hQ _ _ _ _ (by kernel_rfl) ?_ | refine hP _ _ (fun _ => ?_) | refine hP _ _ (by kernel_rfl) (fun _ => ?_)); clear hQ hP Q) | refine GW_block ?_ | refine GW_ret ?_ | refine GW_skip ?_ | refine GW_exit ?_ | refine GW_goto ?_ | refine GW_label ?_ | simp only [blockG_exit] | (refine GW_cond (by simp; rfl) ?_ ?_ <;> (intro hb; first | (exfalso; exact absurd hb (by decide)) | skip)))
        refine GW_list ?_
        simp only [Array.toList]
        refine GL_walk 3 [] rfl (by simp) (by kernel_rfl) ?_; intro q hq; simp [hC, hY]; refine hq _ _ _ _ ?_; clear hq q
        simp only [wT, List.length_cons, List.length_nil, Nat.reduceAdd]
        refine GL_callL (f := .func 21) (cap := #[]) hC dA rfl (by simp) rfl rfl (by simp [okT]) (by simp [gev]) (by simp) (by simp [okX, junk]) (by simp [gev]) (by simp) (by (intro k hk; first | rfl | (simp (disch := omega) only [addB, List.mem_cons, List.not_mem_nil, or_false, upd_other, hpL_cons, hpL_nil, if_neg, updL] <;> done))) ?_ ?_
        · intro v ns hV k hk
          rw [driftR_key hV k hk]
          omega
        rintro v ns ⟨w, ⟨ca, Ma, ga, k1a, k2a, k3a, rfl, rfl⟩, rfl⟩
        refine GL_walk 6 [] rfl (by simp) (by kernel_rfl) ?_; intro q hq; simp [hC, hY, putT, updL]; refine hq _ _ _ _ ?_; clear hq q
        simp only [wT, List.length_cons, List.length_nil, Nat.reduceAdd]
        refine GL_nil ?_
        repeat' (first | refine GW_seq ?_ | simp only [List.length_cons, List.length_nil, Nat.reduceAdd, Nat.reduceMul, wN] | ((first | refine GW_region' [] (by kernel_rfl) ?_ | refine GW_draw' [] follows (by kernel_rfl) (by kernel_rfl) ?_); intro Q hQ hP; simp [hC, hY]; (first | refine hQ _ _ _ _ ?_ | refine hQ _ _ _ _ (by kernel_rfl) ?_ | refine hP _ _ (fun _ => ?_) | refine hP _ _ (by kernel_rfl) (fun _ => ?_)); clear hQ hP Q) | refine GW_block ?_ | refine GW_ret ?_ | refine GW_skip ?_ | refine GW_exit ?_ | refine GW_goto ?_ | refine GW_label ?_ | simp only [blockG_exit] | (refine GW_cond (by simp; rfl) ?_ ?_ <;> (intro hb; first | (exfalso; exact absurd hb (by decide)) | skip)))
        have hpb := partB_t c1
        have b1 : Int.bmod (-p) 18446744073709551616 = -p := bm (by omega) (by omega)
        have i1 : i64 (-p) := ⟨by omega, by omega⟩
        have hSo := own_sb k2a k3a hFi hnn
        have dB := drift_at 312 416 (by omega) (by omega) (by omega) _ 0 n ca (mvF f p q) hSo k1a st (-p) q hs i1 hq
        rw [back_E c0 c1 hok] at dB
        refine GW_list ?_
        simp only [Array.toList]
        refine GL_walk 4 [] rfl (by simp) (by kernel_rfl) ?_; intro q hq; simp [hC, hY, b1]; refine hq _ _ _ _ ?_; clear hq q
        simp only [wT, List.length_cons, List.length_nil, Nat.reduceAdd]
        refine GL_callL (f := .func 21) (cap := #[]) hC dB rfl (by simp) rfl rfl (by simp [okT]) (by simp [gev]) (by simp) (by simp [okX, junk]) (by simp [gev]) (by simp) (by (intro k hk; first | rfl | (simp (disch := omega) only [addB, List.mem_cons, List.not_mem_nil, or_false, upd_other, hpL_cons, hpL_nil, if_neg, updL] <;> done))) ?_ ?_
        · intro v ns hV k hk
          rw [driftR_key hV k hk]
          omega
        rintro v ns ⟨w, ⟨cb, Mb, gb, k1b, k2b, k3b, rfl, rfl⟩, rfl⟩
        refine GL_walk 6 [] rfl (by simp) (by kernel_rfl) ?_; intro q hq; simp [hC, hY, putT, updL]; refine hq _ _ _ _ ?_; clear hq q
        simp only [wT, List.length_cons, List.length_nil, Nat.reduceAdd]
        refine GL_nil ?_
        have hSb := own_sb k2b (fun j hj => (k3b j hj).trans (back_F c0 c1 hok hj)) h.i6 hnn
        have hsame : sameB st st n n f f = true := sameB_iff.2 ⟨rfl, rfl, fun _ _ => rfl⟩
        have hro := mv_right c0 hok
        repeat' (first | refine GW_seq ?_ | simp only [List.length_cons, List.length_nil, Nat.reduceAdd, Nat.reduceMul, wN] | ((first | refine GW_region' [24, 25] (by kernel_rfl) ?_ | refine GW_draw' [24, 25] follows (by kernel_rfl) (by kernel_rfl) ?_); intro Q hQ hP; simp [hC, hY, hsame, hro]; (repeat ((first | (refine heapK_mv (same_fun _ b 0 off n n cb cap f f hSb h st st) G0F (B := 200) (smL_ok hSb.fx h.fx) (fun k => if k = 100 then 416 else if k = 108 then 100 else k) (fun k hk => (if_neg (by omega)).trans (if_neg (by omega))) (by simp [ren, renA, renF, ren0]) (by simp) (by simp [smL, hr, fa_rn]) (by simp [keys, smL]) (by simp [keys, smL]; rfl) ?_) | (refine heapK_mv (rig10_fun _ 0 n ca (mvF f p q) hSo st) G0F (B := 200) (oneL_ok hSo.fx) (fun k => if k = 100 then 312 else k) (fun k hk => if_neg (by omega)) (by simp [ren, renA, renF, ren0]) (by simp) (by simp [fa_rn]) (by simp [keys]) (by simp [keys]; rfl) ?_)); try simp [hC, hY, hsame, hro])); (first | refine hQ _ _ _ _ ?_ | refine hQ _ _ _ _ (by kernel_rfl) ?_ | refine hP _ _ (fun _ => ?_) | refine hP _ _ (by kernel_rfl) (fun _ => ?_)); clear hQ hP Q) | refine GW_block ?_ | refine GW_ret ?_ | refine GW_skip ?_ | refine GW_exit ?_ | refine GW_goto ?_ | refine GW_label ?_ | simp only [blockG_exit] | (refine GW_cond (by simp; rfl) ?_ ?_ <;> (intro hb; first | (exfalso; exact absurd hb (by decide)) | skip)))
        refine GW_for n (dbSt b st off n cap ca Ma ga) ?_ ?_ ?_
        · refine weakL _ 800 hC G0F (m0 := [(100, b)]) hC0 (by omega) ?_ ?_ ?_
          · simp [idsV, idsA, idsF, ids0, dom]
          · simp [stB', ids_lit, idsF, ids0, hid, dom, Blk.fx_ids (fa_fx _ _ _)]
          · simp
        · intro i hi
          have hi' : (i : Int) < n := by omega
          have hz : (0 : Int) ≤ i := by omega
          have hs2 : Int.bmod ((i : Int) + 1) 18446744073709551616 = ((i + 1 : Nat) : Int) := by rw [bm (by omega) (by omega)]; rfl
          have hv := h.vec hi (u := 3) (by omega)
          have ho := hSo.vec hi (u := 3) (by omega)
          have e3 := mv_v f p q i 3 (by omega) (by omega)
          have e4 := mv_v f p q i 4 (by omega) (by omega)
          have e5 := mv_v f p q i 5 (by omega) (by omega)
          rw [Nat.zero_add] at ho
          unfold dbSt stB'
          repeat' (first | refine GW_seq ?_ | simp only [List.length_cons, List.length_nil, Nat.reduceAdd, Nat.reduceMul, wN] | ((first | refine GW_region' [] (by kernel_rfl) ?_ | refine GW_draw' [] follows (by kernel_rfl) (by kernel_rfl) ?_); intro Q hQ hP; simp [hC, hY, hi, hi', hz, hs2, hv, ho, e3, e4, e5]; (first | refine hQ _ _ _ _ ?_ | refine hQ _ _ _ _ (by kernel_rfl) ?_ | refine hP _ _ (fun _ => ?_) | refine hP _ _ (by kernel_rfl) (fun _ => ?_)); clear hQ hP Q) | refine GW_block ?_ | refine GW_ret ?_ | refine GW_skip ?_ | refine GW_exit ?_ | refine GW_goto ?_ | refine GW_label ?_ | simp only [blockG_exit] | (refine GW_cond (by simp; rfl) ?_ ?_ <;> (intro hb; first | (exfalso; exact absurd hb (by decide)) | skip)))
          refine weakL _ 800 hC G0F (m0 := [(100, b)]) hC0 (by omega) ?_ ?_ ?_
          · simp [idsV, idsA, idsF, ids0, dom, hs2]
          · simp [stB', ids_lit, idsF, ids0, hid, dom, Blk.fx_ids (fa_fx _ _ _)]
          · simp
        · unfold dbSt stB'
          repeat' (first | refine GW_seq ?_ | simp only [List.length_cons, List.length_nil, Nat.reduceAdd, Nat.reduceMul, wN] | ((first | refine GW_region' [] (by kernel_rfl) ?_ | refine GW_draw' [] follows (by kernel_rfl) (by kernel_rfl) ?_); intro Q hQ hP; simp [hC, hY]; (first | refine hQ _ _ _ _ ?_ | refine hQ _ _ _ _ (by kernel_rfl) ?_ | refine hP _ _ (fun _ => ?_) | refine hP _ _ (by kernel_rfl) (fun _ => ?_)); clear hQ hP Q) | refine GW_block ?_ | refine GW_ret ?_ | refine GW_skip ?_ | refine GW_exit ?_ | refine GW_goto ?_ | refine GW_label ?_ | simp only [blockG_exit] | (refine GW_cond (by simp; rfl) ?_ ?_ <;> (intro hb; first | (exfalso; exact absurd hb (by decide)) | skip)))
          refine ⟨.inr rfl, by simp [Tryd.results4], keep_of G0F (by simp) (by (intro k hk; first | rfl | (simp (disch := omega) only [addB, List.mem_cons, List.not_mem_nil, or_false, upd_other, hpL_cons, hpL_nil, if_neg, updL] <;> done)))⟩
      · have hF : drF st f n p q = f := by unfold drF; rw [if_neg (by omega)]
        rw [hE, hF] at dA
        repeat' (first | refine GW_seq ?_ | simp only [List.length_cons, List.length_nil, Nat.reduceAdd, Nat.reduceMul, wN] | ((first | refine GW_region' [25] (by kernel_rfl) ?_ | refine GW_draw' [25] follows (by kernel_rfl) (by kernel_rfl) ?_); intro Q hQ hP; simp [hC, hY, c0, c1]; (repeat ((first | (refine heapK_mv (rig10_fun b off n cap f h st) G0F (B := 200) (oneL_ok h.fx) (fun k => k) (fun k hk => rfl) (by simp [ren, renA, renF, ren0]) (by simp) (by simp [hr]) (by simp [keys]) (by simp [keys]; rfl) ?_)); try simp [hC, hY, c0, c1])); (first | refine hQ _ _ _ _ ?_ | refine hQ _ _ _ _ (by kernel_rfl) ?_ | refine hP _ _ (fun _ => ?_) | refine hP _ _ (by kernel_rfl) (fun _ => ?_)); clear hQ hP Q) | refine GW_block ?_ | refine GW_ret ?_ | refine GW_skip ?_ | refine GW_exit ?_ | refine GW_goto ?_ | refine GW_label ?_ | simp only [blockG_exit] | (refine GW_cond (by simp; rfl) ?_ ?_ <;> (intro hb; first | (exfalso; exact absurd hb (by decide)) | skip)))
        refine GW_list ?_
        simp only [Array.toList]
        refine GL_walk 3 [] rfl (by simp) (by kernel_rfl) ?_; intro q hq; simp [hC, hY]; refine hq _ _ _ _ ?_; clear hq q
        simp only [wT, List.length_cons, List.length_nil, Nat.reduceAdd]
        refine GL_callL (f := .func 21) (cap := #[]) hC dA rfl (by simp) rfl rfl (by simp [okT]) (by simp [gev]) (by simp) (by simp [okX, junk]) (by simp [gev]) (by simp) (by (intro k hk; first | rfl | (simp (disch := omega) only [addB, List.mem_cons, List.not_mem_nil, or_false, upd_other, hpL_cons, hpL_nil, if_neg, updL] <;> done))) ?_ ?_
        · intro v ns hV k hk
          rw [driftR_key hV k hk]
          omega
        rintro v ns ⟨w, ⟨ca, Ma, ga, k1a, k2a, k3a, rfl, rfl⟩, rfl⟩
        refine GL_walk 6 [] rfl (by simp) (by kernel_rfl) ?_; intro q hq; simp [hC, hY, putT, updL]; refine hq _ _ _ _ ?_; clear hq q
        simp only [wT, List.length_cons, List.length_nil, Nat.reduceAdd]
        refine GL_nil ?_
        have hSo := own_sb k2a k3a h.i6 hnn
        have hsame : sameB st st n n f f = true := sameB_iff.2 ⟨rfl, rfl, fun _ _ => rfl⟩
        repeat' (first | refine GW_seq ?_ | simp only [List.length_cons, List.length_nil, Nat.reduceAdd, Nat.reduceMul, wN] | ((first | refine GW_region' [24] (by kernel_rfl) ?_ | refine GW_draw' [24] follows (by kernel_rfl) (by kernel_rfl) ?_); intro Q hQ hP; simp [hC, hY, hsame]; (repeat ((first | (refine heapK_mv (same_fun _ b 0 off n n ca cap f f hSo h st st) G0F (B := 200) (smL_ok hSo.fx h.fx) (fun k => if k = 100 then 312 else if k = 108 then 100 else k) (fun k hk => (if_neg (by omega)).trans (if_neg (by omega))) (by simp [ren, renA, renF, ren0]) (by simp) (by simp [smL, hr, fa_rn]) (by simp [keys, smL]) (by simp [keys, smL]; rfl) ?_)); try simp [hC, hY, hsame])); (first | refine hQ _ _ _ _ ?_ | refine hQ _ _ _ _ (by kernel_rfl) ?_ | refine hP _ _ (fun _ => ?_) | refine hP _ _ (by kernel_rfl) (fun _ => ?_)); clear hQ hP Q) | refine GW_block ?_ | refine GW_ret ?_ | refine GW_skip ?_ | refine GW_exit ?_ | refine GW_goto ?_ | refine GW_label ?_ | simp only [blockG_exit] | (refine GW_cond (by simp; rfl) ?_ ?_ <;> (intro hb; first | (exfalso; exact absurd hb (by decide)) | skip)))
        refine ⟨.inr rfl, by simp [Tryd.results4], keep_of G0F (by simp) (by (intro k hk; first | rfl | (simp (disch := omega) only [addB, List.mem_cons, List.not_mem_nil, or_false, upd_other, hpL_cons, hpL_nil, if_neg, updL] <;> done)))⟩
end Go.Gy
namespace Go.Gy
set_option linter.unusedSimpArgs false
set_option linter.unusedVariables false
set_option maxRecDepth 100000
open Go Go.RowKit Go.Proofs Go.ChangeShapes Go.WideShapes Go.ChangeAt

section
variable {H : Type} {enc : TypeId × Value → H} {P : Program}
theorem post_of_below {f : Func} {s : ChangeSpec} {apart fresh handsOn again : Bool} {W W' : World} {args : Array Value} {v : Value} {ds gs : List (DataW H)} {before pa pv : List MemPlace}
    (hW : DataW.Whole enc P f.params.toList s.vars apart W args.toList ds gs before)
    (hres : ∀ (b : Nat) (sp : Nat → Bool) (hd : Bool), DataW.TrodAll enc P W' b sp hd f.resultTypes.toList (v.resultList f.resultTypes.size) (s.fn H (ds ++ gs)).results [])
    (hargs : ∀ sp : Nat → Bool, (∀ p ∈ before, sp p.block = true) → DataW.TrodAll enc P W' 0 sp true f.params.toList args.toList (s.fn H (ds ++ gs)).args pa)
    (hvars : ∀ sp : Nat → Bool, (∀ p ∈ before, sp p.block = true) → DataW.TrodVars enc P W' sp s.vars (s.fn H (ds ++ gs)).vars pv)
    (hps : before = pa ++ pv) (hb : Below W.heap.size W W')
    (hok : ∀ (j : Nat) (t : TypeId) (r : Value), f.resultTypes[j]? = some t → (v.resultList f.resultTypes.size)[j]? = some r → Value.okWide P W' .any 0 t r) :
    s.post enc P f apart fresh handsOn again W args v W' := by
  have hlt : ∀ p ∈ before, p.block < W.heap.size := fun p hp => hW.lt p hp
  have hold : ∀ p ∈ before, (fun b => decide (b < W.heap.size)) p.block = true := fun p hp => by simpa using hlt p hp
  refine ⟨ds, gs, before, [], pa, pv, hW, hres _ _ _, hargs _ hold, hvars _ hold, World.keptBut_mono (fun p hp => ⟨hp, ?_⟩) (hb.frame (· ∈ before)), fun _ => ?_⟩
  · rw [hps, List.mem_append] at hp
    exact Or.inr hp
  · obtain ⟨_, _, _, _, _, hz, hn⟩ := hW
    refine ⟨hok, _, _, ([] ++ pa) ++ pv, ⟨[] ++ pa, pv, trodAll_append (hargs _ (fun _ _ => rfl)) (hres _ _ _), hvars _ (fun _ _ => rfl), rfl, ?_, ?_⟩, ?_⟩
    · intro b off hp
      have hin : MemPlace.cell b off ∈ before := by rw [hps]; simpa using hp
      rw [hb.frozen (hlt _ hin)]
      exact hz b off hin
    · intro ha
      have := hn ha
      rw [hps] at this
      simpa using this
    · intro p hp _
      rw [hps]
      simpa using hp
/-- An array of integers, opened. -/
theorem open_ia {w : World} {base b0 : Nat} {spare : Nat → Bool} {held : Bool} {r : Reach} {t e : TypeId} {n : Nat} {q : IntKind} {v : Value} {d : DataW H} {p : List MemPlace} (ht : P.underlying t = some (.array n e)) (he : P.underlying e = some (.int q)) (hce : P.cellsOf e = 1) (hct : P.cellsOf t = n)
    (hv : Value.okWide P w r b0 t v) (h : DataW.Trod enc P w base spare held t v d p) :
    ∃ zs : List Int, zs.length = n ∧ v = .agg (zs.map (.int q)).toArray ∧ d = .agg (zs.map fun z => .lit (.int q z)) ∧ p = [] ∧ ∀ z ∈ zs, (Lit.int q z).wf = true := by
  simp only [Value.okWide, ht] at hv
  obtain ⟨cs, rfl, hsz, _⟩ := hv
  obtain ⟨fuel, hf⟩ := h
  cases fuel with
  | zero => simp [DataW.trod] at hf
  | succ fuel =>
    simp only [DataW.trod, ht, hce, hct, Nat.mul_one, Value.cells] at hf
    split at hf
    · rename_i hl
      obtain ⟨xs, hm, hx⟩ := Option.map_eq_some_iff.1 hf
      have key : ∀ (l : List Nat) (xs : List (DataW H × List MemPlace)), l.mapM (fun i => DataW.trod enc P w base spare held fuel e ((cs.toList.drop i).take 1)) = some xs →
          ∃ zs : List Int, zs.length = l.length ∧ (∀ j i, l[j]? = some i → ((cs.toList.drop i).take 1) = [Value.int q (zs.getD j 0)]) ∧ xs = zs.map (fun z => (.lit (.int q z), [])) ∧ ∀ z ∈ zs, (Lit.int q z).wf = true := by
        intro l
        induction l with
        | nil => intro xs h; simp at h; subst h; exact ⟨[], rfl, by simp, rfl, by simp⟩
        | cons i l ih =>
          intro xs h
          rw [List.mapM_cons] at h
          simp only [bind, Option.bind_eq_some_iff, pure, Option.some.injEq] at h
          obtain ⟨y, hy, ys, hys, rfl⟩ := h
          obtain ⟨zs, h1, h2, rfl, h4⟩ := ih ys hys
          obtain ⟨z, hz, rfl, hw⟩ := DataW.trod_int he hy
          refine ⟨z :: zs, by simp [h1], fun j i' hj => ?_, rfl, fun x hx => ?_⟩
          · cases j with
            | zero => simp at hj; subst hj; simpa using hz
            | succ j => simp at hj; simpa using h2 j i' hj
          · rcases List.mem_cons.1 hx with rfl | hx
            · exact hw
            · exact h4 x hx
      obtain ⟨zs, h1, h2, rfl, h4⟩ := key _ _ hm
      have hzn : zs.length = n := by simpa using h1
      simp only [Prod.mk.injEq] at hx
      refine ⟨zs, hzn, ?_, by rw [← hx.1]; simp [Function.comp_def], by rw [← hx.2]; simp [List.flatMap_eq_nil_iff], h4⟩
      congr 1
      apply Array.ext'
      simp only
      apply List.ext_getElem?
      intro i
      by_cases hi : i < n
      · have h3 := h2 i i (by simp [hi])
        have h5 : cs.toList[i]? = some (.int q (zs.getD i 0)) := by
          have := congrArg (·[0]?) h3
          simpa [List.getElem?_take, List.getElem?_drop] using this
        have e1 : zs[i]? = some (zs.getD i 0) := by simp [List.getD, List.getElem?_eq_getElem (show i < zs.length by omega)]
        rw [h5, List.getElem?_map, e1]
        rfl
      · rw [List.getElem?_eq_none (by omega), List.getElem?_eq_none (by simp; omega)]
    · cases hf
end

/-! A wide number, an int, a point. -/
theorem cells_u64 : Tryd.prog.cellsOf 46 = 1 := by kernel_rfl
theorem cells_wide : Tryd.prog.cellsOf 48 = 4 := by kernel_rfl
theorem mm_i64 : IntKind.i64.min = -9223372036854775808 ∧ IntKind.i64.max = 9223372036854775807 := by decide
theorem wf_i64 {z : Int} (h : (Lit.int .i64 z).wf = true) : i64 z := by
  simp only [Lit.wf, Bool.and_eq_true, decide_eq_true_eq, mm_i64.1, mm_i64.2] at h; unfold i64; omega
section
variable {H : Type} {enc : TypeId × Value → H} {w : World}
end

/-! What the rows' lists give. -/
theorem own : ownKnob Tryd.prog.godebug = none := by kernel_rfl
theorem gLeast : Tryd.prog.globalNamed "gyre/quot.least" = some 1 := by kernel_rfl
theorem gLeastType : (Tryd.prog.globals[1]?).map (·.type) = some 48 := by kernel_rfl
theorem gLeastRow : ((begin Tryd.prog (fun _ _ => 0) default).world.heap[1]?).bind Obj.row? = some (#[.int .u64 0, .int .u64 0, .int .u64 0, .int .u64 0], 48) := by kernel_rfl
theorem heap_of_var {P : Program} {W : World} {name : String} {g : Nat} {cs : Array Value} {z : Array Value} {T : TypeId} (hg : P.globalNamed name = some g) (hlt : g < P.globals.size) (hrow : ((begin P (fun _ _ => 0) default).world.heap[g]?).bind Obj.row? = some (z, T))
    (hS : W.ShapedOpen P) (hv : W.var? P name = some cs) : W.heap[g]? = some (.cells cs T (0, 0)) := by
  obtain ⟨c, h1, _⟩ := hS.1 g z T hlt hrow
  unfold World.var? at hv
  rw [hg] at hv
  simp only [Option.bind_some, h1, Option.some.injEq] at hv
  rw [h1, hv]
theorem gok_least {W : World} (hS : W.ShapedOpen Tryd.prog) (hv : W.var? Tryd.prog "gyre/quot.least" = some lsB.c) : GOK G0 W := fun k b hk => by
  have h := G0_mem hk
  simp [G0L] at h
  obtain ⟨rfl, rfl⟩ := h
  exact heap_of_var gLeast (of_decide_eq_true (by kernel_rfl)) gLeastRow hS hv
theorem least_of {W : World} {rest : List (String × DataW Unit)} (h : laidMet Tryd.prog (("gyre/quot.least", Proofs.YteoefgffimgcmaaDoor.Rows.laid_gyre_quot_least) :: rest) W) : W.var? Tryd.prog "gyre/quot.least" = some lsB.c :=
  Lib.tabIs_of_head (zs := [0, 0, 0, 9223372036854775808]) gLeast gLeastType Tryd.underlying48 Tryd.underlying46 cells_u64 cells_wide h
end Go.Gy
namespace Go.Gy
set_option linter.unusedSimpArgs false
set_option linter.unusedVariables false
set_option maxRecDepth 100000
open Go Go.RowKit Go.Proofs Go.ChangeShapes Go.WideShapes Go.ChangeAt
theorem celln_int : Tryd.prog.cellsOf 3 = 1 := by kernel_rfl
theorem cells_vec : Tryd.prog.cellsOf 26 = 3 := by kernel_rfl
theorem cells_body : Tryd.prog.cellsOf 44 = 6 := by kernel_rfl
theorem cells_bodies : Tryd.prog.cellsOf 22 = 1 := by kernel_rfl
theorem cells_state : Tryd.prog.cellsOf 24 = 2 := by kernel_rfl
theorem ctypes_state : Tryd.prog.cellTypes Tryd.prog.depth 24 = some [3, 22] := by kernel_rfl
section
variable {H : Type} {enc : TypeId × Value → H} {w : World} {base : Nat} {spare : Nat → Bool} {held : Bool}
theorem vec_cells {fuel : Nat} {cs : List Value} {x : DataW H × List MemPlace} (h : DataW.trod enc Tryd.prog w base spare held fuel 26 cs = some x) : cs.length = 3 ∧ ∀ j, j < 3 → ∃ z, cs[j]? = some (.int .i64 z) ∧ i64 z := by
  obtain ⟨xs, m, _, rfl, hl, hxs, hi⟩ := DataW.trod_array Tryd.underlying26 h
  rw [cells_vec] at hl
  refine ⟨hl, fun j hj => ?_⟩
  have h1 := hi j hj
  rw [celln_int, Nat.mul_one, List.getElem?_eq_getElem (by omega)] at h1
  obtain ⟨z, e, _, hw⟩ := DataW.trod_int Tryd.underlying3 h1
  refine ⟨z, ?_, wf_i64 hw⟩
  have := congrArg (·[0]?) e
  simpa [List.getElem?_take, List.getElem?_drop] using this
theorem body_cells {fuel : Nat} {cs : List Value} {x : DataW H × List MemPlace} (h : DataW.trod enc Tryd.prog w base spare held fuel 44 cs = some x) : cs.length = 6 ∧ ∀ j, j < 6 → ∃ z, cs[j]? = some (.int .i64 z) ∧ i64 z := by
  obtain ⟨y0, y1, n, rfl, hl, h0, h1⟩ := trod_struct2 Tryd.underlying44 h
  rw [cells_body] at hl
  simp only [cells_vec] at h0 h1
  refine ⟨hl, fun j hj => ?_⟩
  by_cases c : j < 3
  · obtain ⟨z, e, hz⟩ := (vec_cells h0).2 j c
    refine ⟨z, ?_, hz⟩
    simpa [List.getElem?_take, List.getElem?_drop, c] using e
  · obtain ⟨z, e, hz⟩ := (vec_cells h1).2 (j - 3) (by omega)
    refine ⟨z, ?_, hz⟩
    rw [List.getElem?_take, if_pos (by omega), List.getElem?_drop, show 3 + (j - 3) = j by omega] at e
    exact e
theorem open_bodies {fuel : Nat} {cs : List Value} {x : DataW H × List MemPlace} (h : DataW.trod enc Tryd.prog w 0 (fun _ => true) held fuel 22 cs = some x) :
    cs = [.slice none 0 0] ∨ ∃ (a : Addr) (len cap : Nat) (f : Nat → Int), cs = [.slice (some a) len cap] ∧ len ≤ cap ∧ ∀ j, j < 6 * cap → w.cell? (a.add j) = some (.int .i64 (f j)) ∧ i64 (f j) := by
  rcases Deep.open_slice Tryd.underlying22 h with ⟨h0, _⟩ | ⟨a, len, cap, m, n, D, Pl, rfl, _, hlc, hcm, hm, _, hel⟩
  · exact .inl h0
  right
  rw [if_pos rfl] at hm
  subst hm
  refine ⟨a, len, m, fun j => match w.cell? (a.add j) with | some (.int _ z) => z | _ => 0, rfl, hlc, fun j hj => ?_⟩
  obtain ⟨cs', h1, h2⟩ := hel (j / 6) (by omega)
  rw [cells_body] at h1
  obtain ⟨z, e, hz⟩ := (body_cells h2).2 (j % 6) (by omega)
  unfold World.cells? at h1
  rw [if_pos (Nat.zero_le _)] at h1
  have h3 := mapM_some_get h1 (j % 6) (j % 6) (List.getElem?_range (by omega))
  rw [e, Deep.add_add, show j / 6 * 6 + j % 6 = j by omega] at h3
  dsimp only
  rw [h3]
  exact ⟨rfl, hz⟩
theorem rowAt_uint {fits : TypeId → Bool} (h : fits 46 = false) (d c o n : Nat) : rowAt Tryd.prog fits d 46 c o n = false := by
  cases d with
  | zero => rfl
  | succ d => simp [rowAt, h, Tryd.underlying46]
theorem rowAt_wide {fits : TypeId → Bool} (h : fits 46 = false) (h2 : fits 48 = false) (d c o n : Nat) : rowAt Tryd.prog fits d 48 c o n = false := by
  cases d with
  | zero => rfl
  | succ d => simp [rowAt, h2, Tryd.underlying48, rowAt_uint h]
theorem lies_wide (d c o n : Nat) : liesAt Tryd.prog d 48 c o 44 n = false := by
  cases d with
  | zero => rfl
  | succ d =>
    unfold liesAt
    rw [rowAt_wide (by kernel_rfl) (by kernel_rfl), Tryd.underlying44]
    rfl
/-- A state's bodies lie in this block. -/
structure StAt (W : World) (k off n cap : Nat) (b : Blk) (f : Nat → Int) : Prop where
  le : n ≤ cap
  heap : W.heap[k]? = some b.obj0
  fx : b.fx
  rd : rdI b off (6 * cap) f
  i6 : ∀ j, j < 6 * cap → i64 (f j)
  lies : ∃ row c, W.shape? k = some (row, c) ∧ liesAt Tryd.prog Tryd.prog.depth row (c / Tryd.prog.cellsOf row) off 44 cap = true
theorem StAt.sb {W : World} {k off n cap : Nat} {b : Blk} {f : Nat → Int} (h : StAt W k off n cap b f) (hn : n ≤ 2932031007402) : SB b off n f := ⟨h.rd.le (by have := h.le; omega), h.fx, fun j hj => h.i6 j (by have := h.le; omega), hn⟩
theorem open_state {r : Reach} {b0 : Nat} {v : Value} {d : DataW H} {p : List MemPlace} (hv : Value.okWide Tryd.prog w r b0 24 v) (h : DataW.Trod enc Tryd.prog w 0 (fun _ => true) held 24 v d p) :
    ∃ st, i64 st ∧ (v = .agg #[.int .i64 st, .slice none 0 0] ∨ ∃ (k off n cap : Nat) (b : Blk) (f : Nat → Int), v = .agg #[.int .i64 st, .slice (some ⟨k, off, none⟩) n cap] ∧ StAt w k off n cap b f) := by
  simp only [Value.okWide, Tryd.underlying24] at hv
  obtain ⟨cs, rfl, hsz, ts, hts, _, hall⟩ := hv
  rw [ctypes_state] at hts
  simp only [Option.some.injEq] at hts
  subst hts
  obtain ⟨fuel, hf⟩ := h
  obtain ⟨y0, y1, n, _, hl, h0, h1⟩ := trod_struct2 Tryd.underlying24 hf
  rw [celln_int] at h0
  rw [cells_bodies] at h1
  simp only [Value.cells] at h0 h1
  obtain ⟨st, e0, _, hw⟩ := DataW.trod_int Tryd.underlying3 h0
  rw [cells_state] at hsz
  obtain ⟨c0, c1, rfl⟩ : ∃ c0 c1, cs = #[c0, c1] := by
    obtain ⟨l⟩ := cs
    match l, hsz with
    | [c0, c1], _ => exact ⟨c0, c1, rfl⟩
  simp at e0
  subst e0
  refine ⟨st, wf_i64 hw, ?_⟩
  rcases open_bodies h1 with e1 | ⟨a, len, cap, f, e1, hle, hc⟩
  · simp at e1
    subst e1
    exact .inl rfl
  · simp at e1
    subst e1
    right
    obtain ⟨u, hu, hok⟩ := hall 1 _ rfl
    simp at hu
    subst hu
    simp only [Cell.okWide, Cell.ok, Tryd.underlying22] at hok
    obtain ⟨_, _, _, hsp, row, cells, hsh, hlies⟩ := hok
    obtain ⟨k, off, sp⟩ := a
    simp only at hsp hsh hlies
    subst hsp
    have hsh' := hsh
    unfold World.shape? at hsh'
    split at hsh'
    · rename_i c T fr hh
      simp only [Option.some.injEq, Prod.mk.injEq] at hsh'
      obtain ⟨rfl, rfl⟩ := hsh'
      refine ⟨k, off, len, cap, ⟨c, .raw T fr⟩, f, rfl, hle, hh, trivial, fun j hj => ?_, fun j hj => (hc j hj).2, T, _, hsh, hlies⟩
      have h2 := (hc j hj).1
      rw [Addr.add_lit] at h2
      simpa [World.cell?, hh] using h2
    · cases hsh'
end
theorem open_vec {H : Type} {enc : TypeId × Value → H} {w : World} {base b0 : Nat} {spare : Nat → Bool} {held : Bool} {r : Reach} {v : Value} {d : DataW H} {p : List MemPlace} (hv : Value.okWide Tryd.prog w r b0 26 v) (h : DataW.Trod enc Tryd.prog w base spare held 26 v d p) :
    ∃ x y z, (Lit.int .i64 x).wf = true ∧ (Lit.int .i64 y).wf = true ∧ (Lit.int .i64 z).wf = true ∧ v = .agg #[.int .i64 x, .int .i64 y, .int .i64 z] ∧ d = .agg [.lit (.int .i64 x), .lit (.int .i64 y), .lit (.int .i64 z)] ∧ p = [] := by
  obtain ⟨zs, hl, rfl, rfl, rfl, hw⟩ := open_ia Tryd.underlying26 Tryd.underlying3 celln_int cells_vec hv h
  match zs, hl with
  | [x, y, z], _ => exact ⟨x, y, z, hw _ (by simp), hw _ (by simp), hw _ (by simp), by simp, by simp, rfl⟩
theorem trodAll_stays {H : Type} {enc : TypeId × Value → H} {P : Program} {base : Nat} (hl : laidOutB P = true) {W W' : World} {sp' : Nat → Bool} : ∀ (ts : List TypeId) (vs : List Value) (ds : List (DataW H)) (ps : List MemPlace), (∀ t ∈ ts, P.readableRec t = true ∧ t < P.types.size) →
    DataW.TrodAll enc P W base (fun _ => true) true ts vs ds ps → (∀ p ∈ ps, W.sameAt W' p) → (∀ p ∈ ps, sp' p.block = true) → DataW.TrodAll enc P W' base sp' true ts vs ds ps
  | [], [], [], _, _, h, _, _ => h
  | t :: _, _ :: _, _ :: _, _, hT, ⟨p, q, h1, h2, e⟩, hm, hs => ⟨p, q, WideElems.Trod_stays hl (hT t (by simp)).1 (hT t (by simp)).2 h1 (fun x hx => hm x (by rw [e]; exact List.mem_append_left _ hx)) (fun x hx => hs x (by rw [e]; exact List.mem_append_left _ hx)),
      trodAll_stays hl _ _ _ _ (fun t ht => hT t (List.mem_cons_of_mem _ ht)) h2 (fun x hx => hm x (by rw [e]; exact List.mem_append_right _ hx)) (fun x hx => hs x (by rw [e]; exact List.mem_append_right _ hx)), e⟩
theorem laid_out : laidOutB Tryd.prog = true := by kernel_rfl
theorem bytes_body : Tryd.prog.bytesOf 44 = 48 := by kernel_rfl
/-- A state's bodies take no more room than there is. -/
theorem cap_le {H : Type} {enc : TypeId × Value → H} {w : World} {held : Bool} {st : Int} {a : Addr} {n cap : Nat} {d : DataW H} {p : List MemPlace} (h : DataW.Trod enc Tryd.prog w 0 (fun _ => true) held 24 (.agg #[.int .i64 st, .slice (some a) n cap]) d p) (hw : ∀ x ∈ d.weights Tryd.prog 24, x ≤ reachBytes) : cap ≤ 2932031007402 := by
  obtain ⟨fuel, hf⟩ := h
  obtain ⟨y0, y1, m, hx, hl, h0, h1⟩ := trod_struct2 Tryd.underlying24 hf
  rw [cells_bodies] at h1
  simp only [Value.cells] at h1
  rcases Deep.open_slice Tryd.underlying22 h1 with ⟨e1, _⟩ | ⟨a', len, cap', m', n', D, Pl, e1, _, hlc, hcm, hm, hy1, _⟩
  · simp at e1
  · simp at e1
    obtain ⟨rfl, rfl, rfl⟩ := e1
    rw [if_pos rfl] at hm
    subst hm
    simp only [Prod.mk.injEq] at hx
    have hd := hx.1
    rw [hd, hy1] at hw
    have := hw ((n + (m' - n)) * 48) (by
      simp only [DataW.weights, Tryd.underlying24]
      simp [DataW.weightsEach, DataW.weights, Tryd.underlying22, bytes_body])
    unfold reachBytes at this
    omega
/-- It is no block of the variable that the row lists. -/
theorem StAt.ne {W : World} {k off n cap : Nat} {b : Blk} {f : Nat → Int} (h : StAt W k off n cap b f) (hg : GOK G0 W) : ∀ g c, G0 g = some c → k ≠ g := fun g c hc e => by
  have h1 := hg g c hc
  have h2 := G0_mem hc
  simp [G0L] at h2
  obtain ⟨rfl, rfl⟩ := h2
  obtain ⟨row, q, hsh, hl⟩ := h.lies
  rw [e] at hsh
  unfold World.shape? at hsh
  rw [h1] at hsh
  simp only [Blk.obj0, lsB, Option.some.injEq, Prod.mk.injEq] at hsh
  obtain ⟨rfl, rfl⟩ := hsh
  rw [lies_wide] at hl
  cases hl
/-- A contract over one block, where that block lies. -/
theorem fun_state {P : Program} {G : Hp} {fn : FuncId} {args : Array Value} {b : Blk} {v : Value} {W : World} {k : Nat} (hGF : GFlat G) (hF : Fun P G fn args (hpL G [(100, b)]) (keys [(100, b)]) (.ret v [])) (hv : flatV v = true) (hgok : GOK G W) (hfx : b.fx) (hk : W.heap[k]? = some b.obj0) (hne : ∀ g c, G g = some c → k ≠ g) :
    CallsS P fn (args.map (ren fun q => if q = 100 then k else q)) W fun e W' => e = .returned v ∧ Below W.heap.size W W' := by
  have er : rst (hpL G [(100, b)]) (keys [(100, b)]) = hpL G [(100, b)] := LOk.rst hGF
  have hobj : ∀ r, b.obj r = b.obj0 := fun r => by
    obtain ⟨c, T⟩ := b
    cases T with
    | ty t => exact Blk.obj_flat hfx
    | raw t fr => rfl
  have hmem : ∀ q c, hpL G [(100, b)] q = some c → (q = 100 ∧ c = b) ∨ (q < 100 ∧ G q = some c) := fun q c hq => by
    rcases hpL_mem hq with h | h
    · simp at h; exact .inl h
    · exact .inr ⟨(hGF q c h).1, h⟩
  have hrun := hF.run (fun q => if q = 100 then k else q) W hgok ?_ ?_ ?_
  · refine hrun.mono fun e W' h => ?_
    obtain ⟨he, ht⟩ := h
    rw [flatV_ren hv] at he
    exact ⟨he, ht.os, ht.tape, ht.output, ht.size, fun q hq => ht.same q hq (by simp)⟩
  · rw [er]
    intro q c hq
    rcases hmem q c hq with ⟨rfl, rfl⟩ | ⟨hlt, hG⟩
    · exact ⟨by simp only [if_true]; rw [hobj]; exact hk, Blk.fx_ids hfx _⟩
    · refine ⟨?_, Blk.flat_ids (hGF q c hG).2⟩
      have e1 : (fun q => if q = 100 then k else q) q = q := if_neg (by omega)
      rw [e1, hgok q c hG]
      congr 1
      obtain ⟨cc, T⟩ := c
      cases T with
      | ty t => exact (Blk.obj_flat (hGF q _ hG).2).symm
      | raw t fr => rfl
  · rw [er]
    intro q q' hq hq' e
    have e : (if q = 100 then k else q) = if q' = 100 then k else q' := e
    unfold dom at hq hq'
    cases h1 : hpL G [(100, b)] q with
    | none => exact absurd h1 hq
    | some c =>
      cases h2 : hpL G [(100, b)] q' with
      | none => exact absurd h2 hq'
      | some c' =>
        rcases hmem q c h1 with ⟨rfl, _⟩ | ⟨hlt, hG⟩ <;> rcases hmem q' c' h2 with ⟨rfl, _⟩ | ⟨hlt', hG'⟩
        · rfl
        · rw [if_pos rfl, if_neg (by omega)] at e; exact absurd e (hne _ _ hG')
        · rw [if_neg (by omega), if_pos rfl] at e; exact absurd e.symm (hne _ _ hG)
        · rw [if_neg (by omega), if_neg (by omega)] at e; exact e
  · intro q hq _
    exact if_neg (by omega)
end Go.Gy
