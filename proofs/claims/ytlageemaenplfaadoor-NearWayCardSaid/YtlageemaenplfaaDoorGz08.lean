/-
  Lemmas of this claim, in their order (GyNG, GyNH, GyNI, GyNJ, GyNK, GyLE, GyNL, GyNM, GyH, GyHP).
  Conditions: those of each theorem.
-/
import Derived.Test.YtlageemaenplfaaDoorGz07
import Derived.Test.YtlageemaenplfaaDoorCards
import Derived.Test.YtlageemaenplfaaDoorTie
import Derived.WalkKit
import Derived.ProofKit
import Derived.OpenShut
import Derived.Below
import Derived.ChangeSame
import Derived.Deep.DeepHandedRow
import Derived.Lib.LaidTab
import Derived.Deep.Strs
namespace Go.Gy
set_option linter.unusedSimpArgs false
set_option linter.unusedVariables false
open Go Go.RowKit Go.Proofs
def wyLo (q : Int) : Int := if 0 ≤ q then isq q else 0
def wyHi (q : Int) : Int := if 0 ≤ q then (if isq q * isq q = q then isq q else isq q + 1) else 0
theorem isq_small {q : Int} (h : i64 q) (h0 : 0 ≤ q) : 0 ≤ isq q ∧ isq q ≤ 3037000500 := by
  obtain ⟨s0, s1, s2⟩ := isq_spec q h0
  refine ⟨s0, ?_⟩
  have h1 := h.2
  refine Classical.byContradiction fun h2 => ?_
  have h3 : (3037000500 : Int) * 3037000500 ≤ isq q * isq q := Int.mul_le_mul (by omega) (by omega) (by omega) s0
  omega
theorem nway_ret (i j q : Int) (h : i64 q) : Ret Tryd.prog G0 11 #[.agg #[.int .i64 i, .int .i64 j, .int .i64 q]] (.tuple #[.int .i64 (wyLo q), .int .i64 (wyHi q)]) := by
  refine ret_of G0F Tryd.func11 rfl Tryd.call11 (by simp) (by simp) (by simp [Tryd.ntmps11]) ?_
  intro C hC hC0 hY
  unfold wyLo wyHi
  by_cases h0 : 0 ≤ q
  · obtain ⟨s0, s1⟩ := isq_small h h0
    obtain ⟨_, s2, _⟩ := isq_spec q h0
    have h1 := h.2
    have hsq0 : 0 ≤ isq q * isq q := Int.mul_nonneg s0 s0
    have b1 : Int.bmod (isq q * isq q) 18446744073709551616 = isq q * isq q := bm (by omega) (by omega)
    have b2 : Int.bmod (isq q + 1) 18446744073709551616 = isq q + 1 := bm (by omega) (by omega)
    rw [if_pos h0, if_pos h0]
    by_cases c : isq q * isq q = q
    · rw [if_pos c]
      rw [c] at b1
      repeat' (first | refine GW_seq ?_ | simp only [List.length_cons, List.length_nil, Nat.reduceAdd, Nat.reduceMul, wN] | ((first | refine GW_region' [] (by kernel_rfl) ?_ | refine GW_draw' [] follows (by kernel_rfl) (by kernel_rfl) ?_); intro Q hQ hP; simp [hC, hY, h, h0, b1, b2, c]; (first | refine hQ _ _ _ _ ?_ | refine hQ _ _ _ _ (by kernel_rfl) ?_ | refine hP _ _ (fun _ => ?_) | refine hP _ _ (by kernel_rfl) (fun _ => ?_)); clear hQ hP Q) | refine GW_block ?_ | refine GW_ret ?_ | refine GW_skip ?_ | refine GW_exit ?_ | refine GW_goto ?_ | refine GW_label ?_ | simp only [blockG_exit] | (refine GW_cond (by simp; rfl) ?_ ?_ <;> (intro hb; first | (exfalso; exact absurd hb (by decide)) | skip)))
      refine ⟨.inr trivial, ?_⟩
      simp [Tryd.results11]
    · have c' : (isq q * isq q == q) = false := by simpa using c
      rw [if_neg c]
      repeat' (first | refine GW_seq ?_ | simp only [List.length_cons, List.length_nil, Nat.reduceAdd, Nat.reduceMul, wN] | ((first | refine GW_region' [] (by kernel_rfl) ?_ | refine GW_draw' [] follows (by kernel_rfl) (by kernel_rfl) ?_); intro Q hQ hP; simp [hC, hY, h, h0, b1, b2, c, c']; (first | refine hQ _ _ _ _ ?_ | refine hQ _ _ _ _ (by kernel_rfl) ?_ | refine hP _ _ (fun _ => ?_) | refine hP _ _ (by kernel_rfl) (fun _ => ?_)); clear hQ hP Q) | refine GW_block ?_ | refine GW_ret ?_ | refine GW_skip ?_ | refine GW_exit ?_ | refine GW_goto ?_ | refine GW_label ?_ | simp only [blockG_exit] | (refine GW_cond (by simp; rfl) ?_ ?_ <;> (intro hb; first | (exfalso; exact absurd hb (by decide)) | skip)))
      refine ⟨.inr trivial, ?_⟩
      simp [Tryd.results11, b2]
  · rw [if_neg h0, if_neg h0]
    have h0' : q < 0 := by omega
    repeat' (first | refine GW_seq ?_ | simp only [List.length_cons, List.length_nil, Nat.reduceAdd, Nat.reduceMul, wN] | ((first | refine GW_region' [] (by kernel_rfl) ?_ | refine GW_draw' [] follows (by kernel_rfl) (by kernel_rfl) ?_); intro Q hQ hP; simp [hC, hY, h, h0']; (first | refine hQ _ _ _ _ ?_ | refine hQ _ _ _ _ (by kernel_rfl) ?_ | refine hP _ _ (fun _ => ?_) | refine hP _ _ (by kernel_rfl) (fun _ => ?_)); clear hQ hP Q) | refine GW_block ?_ | refine GW_ret ?_ | refine GW_skip ?_ | refine GW_exit ?_ | refine GW_goto ?_ | refine GW_label ?_ | simp only [blockG_exit] | (refine GW_cond (by simp; rfl) ?_ ?_ <;> (intro hb; first | (exfalso; exact absurd hb (by decide)) | skip)))
    refine ⟨.inr trivial, ?_⟩
    simp [Tryd.results11]
@[simp] theorem nway (i j q : Int) (h : i64 q) (K : Value → Prop) : callK Tryd.prog G0 11 #[.agg #[.int .i64 i, .int .i64 j, .int .i64 q]] K ↔ K (.tuple #[.int .i64 (wyLo q), .int .i64 (wyHi q)]) := callK_iff G0W (by kernel_rfl) (nway_ret i j q h)
end Go.Gy
namespace Go.Gy
set_option linter.unusedSimpArgs false
set_option linter.unusedVariables false
open Go Go.RowKit Go.Proofs
theorem nor3 {a b c z : Bool} (h : (a && (b && c)) = z) : (!a || (!b || !c)) = !z := by
  subst h
  cases a <;> cases b <;> cases c <;> rfl
def zP (p : Pr) : Bool := p.1 == 0 && (p.2.1 == 0 && p.2.2 == 0)
def lsStep (p q : Pr) : Pr := if zP p = true ∨ q.2.2 < p.2.2 then q else p
/-- The least pair. -/
def lsAll (l : List Pr) : Pr := l.foldl lsStep (0, 0, 0)
def prB (p : Pr) : Blk := ⟨#[.int .i64 p.1, .int .i64 p.2.1, .int .i64 p.2.2], .ty 36⟩
theorem ls_take {l : List Pr} {i : Nat} (hi : i < l.length) : lsAll (l.take (i + 1)) = lsStep (lsAll (l.take i)) (pF l (3 * i), pF l (3 * i + 1), pF l (3 * i + 2)) := by
  have e : l[i]? = some l[i] := by simp [hi]
  obtain ⟨e0, e1, e2⟩ := pF_at e
  rw [e0, e1, e2]
  unfold lsAll
  rw [show l.take (i + 1) = l.take i ++ [l[i]] by simp, List.foldl_append]
  rfl
def lsSt (b : Blk) (nk c : Nat) (a : Nat → Int) (p : Pr) (o r e : Nat) : GS :=
  ⟨tsL [(2, .pointer (some ⟨208, 0, none⟩)), (3, .bool false), (4, .slice (some ⟨nk, o, none⟩) r e)], hpL G0 [(100, b), (208, prB p), (nk, ⟨fa (3 * c) .i64 a, .ty 36⟩)], 300, 0⟩
def LeastV (l : List Pr) : Value := .tuple #[prV (lsAll l), .bool !(zP (lsAll l))]
set_option maxRecDepth 8000 in
set_option maxHeartbeats 4000000 in
theorem least_fun (b : Blk) (off n cap : Nat) (f : Nat → Int) (h : SB b off n f) (hcap : n ≤ cap) (st : Int) (hs : i64 st) :
    Fun Tryd.prog G0 12 #[.agg #[.int .i64 st, .slice (some ⟨100, off, none⟩) n cap]] (hpL G0 [(100, b)]) (keys [(100, b)]) (.ret (LeastV (prs st f n)) []) := by
  refine fun_ofL (B := 200) G0F Tryd.func12 rfl Tryd.call12 (oneL_ok h.fx) ?_ (by simp [LeastV, prV, idsV, idsA, idsF, ids0]) (by simp) (by simp) (by simp [Tryd.ntmps12]) (by omega) ?_
  · simp [idsV, idsA, idsF, ids0, keys]
  intro C hC hC0 hY
  have hid := fun D => Blk.fx_ids h.fx D
  have hpr := nPairs_at 100 232 (by omega) (by omega) (by omega) b off n cap f h hcap st hs
  have hln := prs_len st f n
  obtain ⟨l, hl⟩ : ∃ l, prs st f n = l := ⟨_, rfl⟩
  rw [hl] at hpr hln ⊢
  repeat' (first | refine GW_seq ?_ | simp only [List.length_cons, List.length_nil, Nat.reduceAdd, Nat.reduceMul, wN] | ((first | refine GW_region' [] (by kernel_rfl) ?_ | refine GW_draw' [] follows (by kernel_rfl) (by kernel_rfl) ?_); intro Q hQ hP; simp [hC, hY]; (first | refine hQ _ _ _ _ ?_ | refine hQ _ _ _ _ (by kernel_rfl) ?_ | refine hP _ _ (fun _ => ?_) | refine hP _ _ (by kernel_rfl) (fun _ => ?_)); clear hQ hP Q) | refine GW_block ?_ | refine GW_ret ?_ | refine GW_skip ?_ | refine GW_exit ?_ | refine GW_goto ?_ | refine GW_label ?_ | simp only [blockG_exit] | (refine GW_cond (by simp; rfl) ?_ ?_ <;> (intro hb; first | (exfalso; exact absurd hb (by decide)) | skip)))
  refine GW_scope' 0 (fun r s => (∃ (c : Nat) (a : Nat → Int) (o e : Nat), l.length ≤ c ∧ (∀ j, j < 3 * l.length → a j = pF l j) ∧ r ≤ e ∧ r ≤ l.length ∧ (r = 0 ∨ o = 3 * (l.length - r)) ∧ s = lsSt b 232 c a (lsAll (l.take (l.length - r))) o r e)) rfl ?_ ?_
  · rintro r _ ⟨c, a, o, e, hlc, ha, hre, hrl, ho, rfl⟩
    obtain ⟨p, hp⟩ : ∃ p, lsAll (l.take (l.length - r)) = p := ⟨_, rfl⟩
    rw [hp]
    by_cases hr : r = 0
    · subst hr
      have hp2 : lsAll l = p := by rw [← hp]; simp
      unfold LeastV
      rw [hp2]
      unfold lsSt prB prV zP
      cases hz : (p.1 == 0 && (p.2.1 == 0 && p.2.2 == 0)) with
      | true =>
        have hz' := nor3 hz
        simp only [Bool.not_true] at hz'
        repeat' (first | refine GW_seq ?_ | simp only [List.length_cons, List.length_nil, Nat.reduceAdd, Nat.reduceMul, wN] | ((first | refine GW_region' [] (by kernel_rfl) ?_ | refine GW_draw' [] follows (by kernel_rfl) (by kernel_rfl) ?_); intro Q hQ hP; simp [hC, hY, hz, hz']; (first | refine hQ _ _ _ _ ?_ | refine hQ _ _ _ _ (by kernel_rfl) ?_ | refine hP _ _ (fun _ => ?_) | refine hP _ _ (by kernel_rfl) (fun _ => ?_)); clear hQ hP Q) | refine GW_block ?_ | refine GW_ret ?_ | refine GW_skip ?_ | refine GW_exit ?_ | refine GW_goto ?_ | refine GW_label ?_ | simp only [blockG_exit] | (refine GW_cond (by simp; rfl) ?_ ?_ <;> (intro hb; first | (exfalso; exact absurd hb (by decide)) | skip)))
        refine ⟨.inr rfl, by simp [Tryd.results12], keep_of G0F (by simp) (by (intro k hk; first | rfl | (simp (disch := omega) only [addB, List.mem_cons, List.not_mem_nil, or_false, upd_other, hpL_cons, hpL_nil, if_neg, updL] <;> done)))⟩
      | false =>
        have hz' := nor3 hz
        simp only [Bool.not_false] at hz'
        repeat' (first | refine GW_seq ?_ | simp only [List.length_cons, List.length_nil, Nat.reduceAdd, Nat.reduceMul, wN] | ((first | refine GW_region' [] (by kernel_rfl) ?_ | refine GW_draw' [] follows (by kernel_rfl) (by kernel_rfl) ?_); intro Q hQ hP; simp [hC, hY, hz, hz']; (first | refine hQ _ _ _ _ ?_ | refine hQ _ _ _ _ (by kernel_rfl) ?_ | refine hP _ _ (fun _ => ?_) | refine hP _ _ (by kernel_rfl) (fun _ => ?_)); clear hQ hP Q) | refine GW_block ?_ | refine GW_ret ?_ | refine GW_skip ?_ | refine GW_exit ?_ | refine GW_goto ?_ | refine GW_label ?_ | simp only [blockG_exit] | (refine GW_cond (by simp; rfl) ?_ ?_ <;> (intro hb; first | (exfalso; exact absurd hb (by decide)) | skip)))
        refine ⟨.inr rfl, by simp [Tryd.results12], keep_of G0F (by simp) (by (intro k hk; first | rfl | (simp (disch := omega) only [addB, List.mem_cons, List.not_mem_nil, or_false, upd_other, hpL_cons, hpL_nil, if_neg, updL] <;> done)))⟩
    · have ho := ho.resolve_left hr
      obtain ⟨i, hi⟩ : ∃ i, l.length - r = i := ⟨_, rfl⟩
      rw [hi] at ho hp
      have hil : i < l.length := by omega
      have hr1 : (1 : Int) ≤ (r : Int) := by omega
      have hr0 : (0 : Int) < (r : Int) := by omega
      have hr2 : 0 < r := by omega
      have hr3 : 1 ≤ r := by omega
      have hld := pr_at (T := .ty 36) (a := a) hil hlc rfl
      rw [ha (3 * i) (by omega), ha (3 * i + 1) (by omega), ha (3 * i + 2) (by omega), show i * 3 = o by omega] at hld
      have hld2 : loadK Tryd.prog 3 ⟨fa (3 * c) .i64 a, .ty 36⟩ (o + 2) = some (.int .i64 (pF l (3 * i + 2))) := by
        have := loadK_rd1 (P := Tryd.prog) (T := 3) (j := 3 * i + 2) (tyAgg_of Tryd.isAgg3) (rdI_fa (3 * c) a (.ty 36)) (by omega)
        rw [ha (3 * i + 2) (by omega)] at this
        rw [show o + 2 = 0 + (3 * i + 2) by omega]
        exact this
      have hstep := ls_take hil
      rw [hp] at hstep
      cases hz : (p.1 == 0 && (p.2.1 == 0 && p.2.2 == 0)) with
      | true =>
        have hsp : lsStep p (pF l (3 * i), pF l (3 * i + 1), pF l (3 * i + 2)) = (pF l (3 * i), pF l (3 * i + 1), pF l (3 * i + 2)) := by
          unfold lsStep
          rw [if_pos (.inl hz)]
        rw [hsp] at hstep
        by_cases he : e = 1
        · subst he
          unfold lsSt prB
          repeat' (first | refine GW_seq ?_ | simp only [List.length_cons, List.length_nil, Nat.reduceAdd, Nat.reduceMul, wN] | ((first | refine GW_region' [] (by kernel_rfl) ?_ | refine GW_draw' [] follows (by kernel_rfl) (by kernel_rfl) ?_); intro Q hQ hP; simp [hC, hY, hr0, hr1, hr2, hr3, hld, hld2, hz]; (first | refine hQ _ _ _ _ ?_ | refine hQ _ _ _ _ (by kernel_rfl) ?_ | refine hP _ _ (fun _ => ?_) | refine hP _ _ (by kernel_rfl) (fun _ => ?_)); clear hQ hP Q) | refine GW_block ?_ | refine GW_ret ?_ | refine GW_skip ?_ | refine GW_exit ?_ | refine GW_goto ?_ | refine GW_label ?_ | simp only [blockG_exit] | (refine GW_cond (by simp; rfl) ?_ ?_ <;> (intro hb; first | (exfalso; exact absurd hb (by decide)) | skip)))
          refine ⟨rfl, lsSt b 232 c a (lsAll (l.take (i + 1))) o (r - 1) (1 - 1), r - 1, ?_, ⟨c, a, o, (1 - 1), hlc, ha, by omega, by omega, by omega, ?_⟩, by omega⟩
          · rw [hstep]
            unfold lsSt prB
            refine weakL _ 300 hC G0F (m0 := [(100, b)]) hC0 (by omega) ?_ ?_ ?_
            · simp [idsV, idsA, idsF, ids0, dom]
            · simp [ids_lit, idsF, ids0, hid, Blk.fx_ids (fa_fx _ _ _)]
            · simp
          · rw [show l.length - (r - 1) = i + 1 by omega]
            rfl
        · unfold lsSt prB
          repeat' (first | refine GW_seq ?_ | simp only [List.length_cons, List.length_nil, Nat.reduceAdd, Nat.reduceMul, wN] | ((first | refine GW_region' [] (by kernel_rfl) ?_ | refine GW_draw' [] follows (by kernel_rfl) (by kernel_rfl) ?_); intro Q hQ hP; simp [hC, hY, hr0, hr1, hr2, hr3, hld, hld2, hz, he]; (first | refine hQ _ _ _ _ ?_ | refine hQ _ _ _ _ (by kernel_rfl) ?_ | refine hP _ _ (fun _ => ?_) | refine hP _ _ (by kernel_rfl) (fun _ => ?_)); clear hQ hP Q) | refine GW_block ?_ | refine GW_ret ?_ | refine GW_skip ?_ | refine GW_exit ?_ | refine GW_goto ?_ | refine GW_label ?_ | simp only [blockG_exit] | (refine GW_cond (by simp; rfl) ?_ ?_ <;> (intro hb; first | (exfalso; exact absurd hb (by decide)) | skip)))
          refine ⟨rfl, lsSt b 232 c a (lsAll (l.take (i + 1))) (o + 3) (r - 1) (e - 1), r - 1, ?_, ⟨c, a, (o + 3), (e - 1), hlc, ha, by omega, by omega, by omega, ?_⟩, by omega⟩
          · rw [hstep]
            unfold lsSt prB
            refine weakL _ 300 hC G0F (m0 := [(100, b)]) hC0 (by omega) ?_ ?_ ?_
            · simp [idsV, idsA, idsF, ids0, dom]
            · simp [ids_lit, idsF, ids0, hid, Blk.fx_ids (fa_fx _ _ _)]
            · simp
          · rw [show l.length - (r - 1) = i + 1 by omega]
            rfl
      | false =>
        have hzP : ¬ zP p = true := by unfold zP; rw [hz]; simp
        by_cases hq : pF l (3 * i + 2) < p.2.2
        · have hsp : lsStep p (pF l (3 * i), pF l (3 * i + 1), pF l (3 * i + 2)) = (pF l (3 * i), pF l (3 * i + 1), pF l (3 * i + 2)) := by
            unfold lsStep
            rw [if_pos (.inr hq)]
          rw [hsp] at hstep
          by_cases he : e = 1
          · subst he
            unfold lsSt prB
            repeat' (first | refine GW_seq ?_ | simp only [List.length_cons, List.length_nil, Nat.reduceAdd, Nat.reduceMul, wN] | ((first | refine GW_region' [] (by kernel_rfl) ?_ | refine GW_draw' [] follows (by kernel_rfl) (by kernel_rfl) ?_); intro Q hQ hP; simp [hC, hY, hr0, hr1, hr2, hr3, hld, hld2, hz, hq]; (first | refine hQ _ _ _ _ ?_ | refine hQ _ _ _ _ (by kernel_rfl) ?_ | refine hP _ _ (fun _ => ?_) | refine hP _ _ (by kernel_rfl) (fun _ => ?_)); clear hQ hP Q) | refine GW_block ?_ | refine GW_ret ?_ | refine GW_skip ?_ | refine GW_exit ?_ | refine GW_goto ?_ | refine GW_label ?_ | simp only [blockG_exit] | (refine GW_cond (by simp; rfl) ?_ ?_ <;> (intro hb; first | (exfalso; exact absurd hb (by decide)) | skip)))
            refine ⟨rfl, lsSt b 232 c a (lsAll (l.take (i + 1))) o (r - 1) (1 - 1), r - 1, ?_, ⟨c, a, o, (1 - 1), hlc, ha, by omega, by omega, by omega, ?_⟩, by omega⟩
            · rw [hstep]
              unfold lsSt prB
              refine weakL _ 300 hC G0F (m0 := [(100, b)]) hC0 (by omega) ?_ ?_ ?_
              · simp [idsV, idsA, idsF, ids0, dom]
              · simp [ids_lit, idsF, ids0, hid, Blk.fx_ids (fa_fx _ _ _)]
              · simp
            · rw [show l.length - (r - 1) = i + 1 by omega]
              rfl
          · unfold lsSt prB
            repeat' (first | refine GW_seq ?_ | simp only [List.length_cons, List.length_nil, Nat.reduceAdd, Nat.reduceMul, wN] | ((first | refine GW_region' [] (by kernel_rfl) ?_ | refine GW_draw' [] follows (by kernel_rfl) (by kernel_rfl) ?_); intro Q hQ hP; simp [hC, hY, hr0, hr1, hr2, hr3, hld, hld2, hz, hq, he]; (first | refine hQ _ _ _ _ ?_ | refine hQ _ _ _ _ (by kernel_rfl) ?_ | refine hP _ _ (fun _ => ?_) | refine hP _ _ (by kernel_rfl) (fun _ => ?_)); clear hQ hP Q) | refine GW_block ?_ | refine GW_ret ?_ | refine GW_skip ?_ | refine GW_exit ?_ | refine GW_goto ?_ | refine GW_label ?_ | simp only [blockG_exit] | (refine GW_cond (by simp; rfl) ?_ ?_ <;> (intro hb; first | (exfalso; exact absurd hb (by decide)) | skip)))
            refine ⟨rfl, lsSt b 232 c a (lsAll (l.take (i + 1))) (o + 3) (r - 1) (e - 1), r - 1, ?_, ⟨c, a, (o + 3), (e - 1), hlc, ha, by omega, by omega, by omega, ?_⟩, by omega⟩
            · rw [hstep]
              unfold lsSt prB
              refine weakL _ 300 hC G0F (m0 := [(100, b)]) hC0 (by omega) ?_ ?_ ?_
              · simp [idsV, idsA, idsF, ids0, dom]
              · simp [ids_lit, idsF, ids0, hid, Blk.fx_ids (fa_fx _ _ _)]
              · simp
            · rw [show l.length - (r - 1) = i + 1 by omega]
              rfl
        · have hsp : lsStep p (pF l (3 * i), pF l (3 * i + 1), pF l (3 * i + 2)) = p := by
            unfold lsStep
            rw [if_neg]
            rintro (h1 | h1)
            · exact hzP h1
            · exact hq h1
          rw [hsp] at hstep
          by_cases he : e = 1
          · subst he
            unfold lsSt prB
            repeat' (first | refine GW_seq ?_ | simp only [List.length_cons, List.length_nil, Nat.reduceAdd, Nat.reduceMul, wN] | ((first | refine GW_region' [] (by kernel_rfl) ?_ | refine GW_draw' [] follows (by kernel_rfl) (by kernel_rfl) ?_); intro Q hQ hP; simp [hC, hY, hr0, hr1, hr2, hr3, hld, hld2, hz, hq]; (first | refine hQ _ _ _ _ ?_ | refine hQ _ _ _ _ (by kernel_rfl) ?_ | refine hP _ _ (fun _ => ?_) | refine hP _ _ (by kernel_rfl) (fun _ => ?_)); clear hQ hP Q) | refine GW_block ?_ | refine GW_ret ?_ | refine GW_skip ?_ | refine GW_exit ?_ | refine GW_goto ?_ | refine GW_label ?_ | simp only [blockG_exit] | (refine GW_cond (by simp; rfl) ?_ ?_ <;> (intro hb; first | (exfalso; exact absurd hb (by decide)) | skip)))
            refine ⟨rfl, lsSt b 232 c a (lsAll (l.take (i + 1))) o (r - 1) (1 - 1), r - 1, ?_, ⟨c, a, o, (1 - 1), hlc, ha, by omega, by omega, by omega, ?_⟩, by omega⟩
            · rw [hstep]
              unfold lsSt prB
              refine weakL _ 300 hC G0F (m0 := [(100, b)]) hC0 (by omega) ?_ ?_ ?_
              · simp [idsV, idsA, idsF, ids0, dom]
              · simp [ids_lit, idsF, ids0, hid, Blk.fx_ids (fa_fx _ _ _)]
              · simp
            · rw [show l.length - (r - 1) = i + 1 by omega]
              rfl
          · unfold lsSt prB
            repeat' (first | refine GW_seq ?_ | simp only [List.length_cons, List.length_nil, Nat.reduceAdd, Nat.reduceMul, wN] | ((first | refine GW_region' [] (by kernel_rfl) ?_ | refine GW_draw' [] follows (by kernel_rfl) (by kernel_rfl) ?_); intro Q hQ hP; simp [hC, hY, hr0, hr1, hr2, hr3, hld, hld2, hz, hq, he]; (first | refine hQ _ _ _ _ ?_ | refine hQ _ _ _ _ (by kernel_rfl) ?_ | refine hP _ _ (fun _ => ?_) | refine hP _ _ (by kernel_rfl) (fun _ => ?_)); clear hQ hP Q) | refine GW_block ?_ | refine GW_ret ?_ | refine GW_skip ?_ | refine GW_exit ?_ | refine GW_goto ?_ | refine GW_label ?_ | simp only [blockG_exit] | (refine GW_cond (by simp; rfl) ?_ ?_ <;> (intro hb; first | (exfalso; exact absurd hb (by decide)) | skip)))
            refine ⟨rfl, lsSt b 232 c a (lsAll (l.take (i + 1))) (o + 3) (r - 1) (e - 1), r - 1, ?_, ⟨c, a, (o + 3), (e - 1), hlc, ha, by omega, by omega, by omega, ?_⟩, by omega⟩
            · rw [hstep]
              unfold lsSt prB
              refine weakL _ 300 hC G0F (m0 := [(100, b)]) hC0 (by omega) ?_ ?_ ?_
              · simp [idsV, idsA, idsF, ids0, dom]
              · simp [ids_lit, idsF, ids0, hid, Blk.fx_ids (fa_fx _ _ _)]
              · simp
            · rw [show l.length - (r - 1) = i + 1 by omega]
              rfl
  · intro pass
    repeat' (first | refine GW_seq ?_ | simp only [List.length_cons, List.length_nil, Nat.reduceAdd, Nat.reduceMul, wN] | ((first | refine GW_region' [] (by kernel_rfl) ?_ | refine GW_draw' [] follows (by kernel_rfl) (by kernel_rfl) ?_); intro Q hQ hP; simp [hC, hY]; (first | refine hQ _ _ _ _ ?_ | refine hQ _ _ _ _ (by kernel_rfl) ?_ | refine hP _ _ (fun _ => ?_) | refine hP _ _ (by kernel_rfl) (fun _ => ?_)); clear hQ hP Q) | refine GW_block ?_ | refine GW_ret ?_ | refine GW_skip ?_ | refine GW_exit ?_ | refine GW_goto ?_ | refine GW_label ?_ | simp only [blockG_exit] | (refine GW_cond (by simp; rfl) ?_ ?_ <;> (intro hb; first | (exfalso; exact absurd hb (by decide)) | skip)))
    refine GW_list ?_
    simp only [Array.toList]
    refine GL_walk 1 [] rfl (by simp) (by kernel_rfl) ?_; intro q hq; simp [hC, hY]; refine hq _ _ _ _ ?_; clear hq q
    simp only [wT, List.length_cons, List.length_nil, Nat.reduceAdd]
    refine GL_callL (f := .func 9) (cap := #[]) hC hpr rfl (by simp) rfl rfl (by simp [okT]) (by simp [gev]) (by simp) (by simp [okX, junk]) (by simp [gev]) (by simp) (by (intro k hk; first | rfl | (simp (disch := omega) only [addB, List.mem_cons, List.not_mem_nil, or_false, upd_other, hpL_cons, hpL_nil, if_neg, updL] <;> done))) (fun v ns hV k hk => by rw [prR_key hV k hk]; omega) ?_
    intro v ns hV
    rcases hV with ⟨hl0, rfl, rfl⟩ | ⟨c, a, hi0, hic, hg, rfl, rfl⟩
    · obtain rfl : l = [] := List.length_eq_zero_iff.1 hl0
      refine GL_walk 1 [] rfl (by simp) (by kernel_rfl) ?_; intro q hq; simp [hC, hY, putT, updL]; refine hq _ _ _ _ ?_; clear hq q
      simp only [wT, List.length_cons, List.length_nil, Nat.reduceAdd]
      refine GL_nil ?_
      clear pass
      have h0 : lsAll [] = (0, 0, 0) := rfl
      unfold LeastV
      rw [h0]
      repeat' (first | refine GW_seq ?_ | simp only [List.length_cons, List.length_nil, Nat.reduceAdd, Nat.reduceMul, wN] | ((first | refine GW_region' [] (by kernel_rfl) ?_ | refine GW_draw' [] follows (by kernel_rfl) (by kernel_rfl) ?_); intro Q hQ hP; simp [hC, hY]; (first | refine hQ _ _ _ _ ?_ | refine hQ _ _ _ _ (by kernel_rfl) ?_ | refine hP _ _ (fun _ => ?_) | refine hP _ _ (by kernel_rfl) (fun _ => ?_)); clear hQ hP Q) | refine GW_block ?_ | refine GW_ret ?_ | refine GW_skip ?_ | refine GW_exit ?_ | refine GW_goto ?_ | refine GW_label ?_ | simp only [blockG_exit] | (refine GW_cond (by simp; rfl) ?_ ?_ <;> (intro hb; first | (exfalso; exact absurd hb (by decide)) | skip)))
      refine ⟨.inr rfl, ?_, keep_of G0F (by simp) (by (intro k hk; first | rfl | (simp (disch := omega) only [addB, List.mem_cons, List.not_mem_nil, or_false, upd_other, hpL_cons, hpL_nil, if_neg, updL] <;> done)))⟩
      simp [Tryd.results12, lsAll, prV, zP]
    ·
      refine GL_walk 1 [] rfl (by simp) (by kernel_rfl) ?_; intro q hq; simp [hC, hY, putT, updL]; refine hq _ _ _ _ ?_; clear hq q
      simp only [wT, List.length_cons, List.length_nil, Nat.reduceAdd]
      refine GL_nil ?_
      refine GW_seq (GW_label ?_)
      simp only [thenG_normal]
      refine pass l.length (lsSt b 232 c a (lsAll (l.take (l.length - l.length))) 0 l.length c) _ ?_ ⟨c, a, 0, c, hic, hg, hic, Nat.le_refl _, .inr (by omega), rfl⟩
      rw [Nat.sub_self]
      have h0 : lsAll [] = (0, 0, 0) := rfl
      rw [List.take_zero, h0]
      unfold lsSt prB
      refine weakL _ 300 hC G0F (m0 := [(100, b)]) hC0 (by omega) ?_ ?_ ?_
      · simp [idsV, idsA, idsF, ids0, dom]
      · simp [ids_lit, idsF, ids0, hid, Blk.fx_ids (fa_fx _ _ _)]
      · simp
end Go.Gy
namespace Go.Gy
set_option linter.unusedSimpArgs false
set_option linter.unusedVariables false
open Go Go.RowKit Go.Proofs
/-- Bodies, moved. -/
def moF (f : Nat → Int) (w0 w1 w2 : Int) (j : Nat) : Int := if j % 6 < 3 then f j + vf w0 w1 w2 (j % 6) else f j
def moE (st : Int) (f : Nat → Int) (n : Nat) (w0 w1 w2 : Int) : Int := if rightB st f n = true then if rightB st (moF f w0 w1 w2) n = true then 0 else 2 else 2
def moR (st : Int) (f : Nat → Int) (n : Nat) (w0 w1 w2 : Int) : Nat → Int := if moE st f n w0 w1 w2 = 0 then moF f w0 w1 w2 else f
theorem mo_v (f : Nat → Int) (w0 w1 w2 : Int) (i u : Nat) (h1 : 3 ≤ u) (h2 : u < 6) : moF f w0 w1 w2 (6 * i + u) = f (6 * i + u) := by
  unfold moF
  rw [if_neg (by omega)]
theorem mo_x (f : Nat → Int) (w0 w1 w2 : Int) (i u : Nat) (h : u < 3) : moF f w0 w1 w2 (6 * i + u) = f (6 * i + u) + vf w0 w1 w2 u := by
  unfold moF
  rw [if_pos (by omega), show (6 * i + u) % 6 = u by omega]
def mqG (g f : Nat → Int) (w0 w1 w2 : Int) (i j : Nat) : Int := if j < 6 * i ∧ j % 6 < 3 then f j + vf w0 w1 w2 (j % 6) else g j
theorem mqG_0 (g f : Nat → Int) (w0 w1 w2 : Int) : mqG g f w0 w1 w2 0 = g := by
  funext j
  unfold mqG
  rw [if_neg (by omega)]
theorem mqG_end {g f : Nat → Int} {w0 w1 w2 : Int} {n j : Nat} (h : j < 6 * n) (hg : ∀ j, j < 6 * n → g j = f j) : mqG g f w0 w1 w2 n j = moF f w0 w1 w2 j := by
  unfold mqG moF
  by_cases c : j % 6 < 3
  · rw [if_pos ⟨h, c⟩, if_pos c]
  · rw [if_neg (by omega), if_neg c]; exact hg j h
theorem mqG_put {g f : Nat → Int} {w0 w1 w2 : Int} {i : Nat} {a b c : Int} (ha : a = f (6 * i) + w0) (hb : b = f (6 * i + 1) + w1) (hc : c = f (6 * i + 2) + w2) : put3 (mqG g f w0 w1 w2 i) (6 * i) a b c = mqG g f w0 w1 w2 (i + 1) := by
  funext j
  unfold put3
  by_cases c0 : j = 6 * i
  · rw [if_pos c0, ha]
    unfold mqG
    rw [if_pos (by omega), c0, show 6 * i % 6 = 0 by omega]
    rfl
  · rw [if_neg c0]
    by_cases c1 : j = 6 * i + 1
    · rw [if_pos c1, hb]
      unfold mqG
      rw [if_pos (by omega), c1, show (6 * i + 1) % 6 = 1 by omega]
      rfl
    · rw [if_neg c1]
      by_cases c2 : j = 6 * i + 2
      · rw [if_pos c2, hc]
        unfold mqG
        rw [if_pos (by omega), c2, show (6 * i + 2) % 6 = 2 by omega]
        rfl
      · rw [if_neg c2]
        unfold mqG
        by_cases c3 : j < 6 * i ∧ j % 6 < 3
        · rw [if_pos c3, if_pos (by omega)]
        · rw [if_neg c3, if_neg (by omega)]
theorem mput_row {M n : Nat} {g f : Nat → Int} {w0 w1 w2 : Int} (hM : 6 * n ≤ M) {i : Nat} (hi : i < n) :
    (((fa M IntKind.i64 (mqG g f w0 w1 w2 i)).setIfInBounds (i * 6) (Value.int IntKind.i64 (addI (f (6 * i)) w0))).setIfInBounds (i * 6 + 1) (Value.int IntKind.i64 (addI (f (6 * i + 1)) w1))).setIfInBounds (i * 6 + 1 + 1) (Value.int IntKind.i64 (addI (f (6 * i + 2)) w2)) = fa M IntKind.i64 (mqG g f w0 w1 w2 (i + 1)) := by
  have := splice_3 M .i64 (mqG g f w0 w1 w2 i) (6 * i) (addI (f (6 * i)) w0) (addI (f (6 * i + 1)) w1) (addI (f (6 * i + 2)) w2) (by omega)
  rw [mqG_put (a := addI (f (6 * i)) w0) (b := addI (f (6 * i + 1)) w1) (c := addI (f (6 * i + 2)) w2) rfl rfl rfl] at this
  rw [show i * 6 = 6 * i by omega]
  simpa [splice] using this
theorem nown_sb {n M : Nat} {g F : Nat → Int} (hM : 6 * n ≤ M) (hg : ∀ j, j < 6 * n → g j = F j) (hF : ∀ j, j < 6 * n → i64 (F j)) (hn : n ≤ 2932031007402) : SB ⟨fa M .i64 g, .ty 42⟩ 0 n F :=
  ⟨fun j hj => by rw [← hg j hj]; exact rdI_fa M g _ j (by omega), fa_fx _ _ _, hF, hn⟩
theorem mo_ok {st : Int} {f : Nat → Int} {n : Nat} {w0 w1 w2 : Int} (h : rightB st f n = true) (h2 : rightB st (moF f w0 w1 w2) n = true) {i : Nat} (hi : i < n) : eaE addI (f (6 * i)) (f (6 * i + 1)) (f (6 * i + 2)) w0 w1 w2 = 0 := by
  rcases eaE_or addI (f (6 * i)) (f (6 * i + 1)) (f (6 * i + 2)) w0 w1 w2 with e | e
  · exact e
  · have hx := (right_b h hi).1
    have := ok_over hx.1 hx.2.1 hx.2.2 e
    have h3 := (right_b h2 hi).1
    have e0 := mo_x f w0 w1 w2 i 0 (by omega)
    have e1 := mo_x f w0 w1 w2 i 1 (by omega)
    have e2 := mo_x f w0 w1 w2 i 2 (by omega)
    rw [Nat.add_zero] at e0
    rw [e0, e1, e2] at h3
    rw [show inV 1048576 (f (6 * i) + w0) (f (6 * i + 1) + w1) (f (6 * i + 2) + w2) = true from inV_iff.2 h3] at this
    cases this
theorem mo_i64 {f : Nat → Int} {n : Nat} {w0 w1 w2 : Int} (h : ∀ j, j < 6 * n → i64 (f j)) (he : ∀ i, i < n → eaE addI (f (6 * i)) (f (6 * i + 1)) (f (6 * i + 2)) w0 w1 w2 = 0) : ∀ j, j < 6 * n → i64 (moF f w0 w1 w2 j) := fun j hj => by
  have hd : 6 * (j / 6) + j % 6 = j := by omega
  obtain ⟨i0, i1, i2⟩ := ea_in (he (j / 6) (by omega))
  by_cases c : j % 6 < 3
  · have e := mo_x f w0 w1 w2 (j / 6) (j % 6) c
    rw [hd] at e
    rw [e]
    have : j % 6 = 0 ∨ j % 6 = 1 ∨ j % 6 = 2 := by omega
    rcases this with c | c | c
    · rw [c]
      have : f j = f (6 * (j / 6)) := by rw [show 6 * (j / 6) = j by omega]
      rw [this]
      exact i0
    · rw [c]
      have : f j = f (6 * (j / 6) + 1) := by rw [show 6 * (j / 6) + 1 = j by omega]
      rw [this]
      exact i1
    · rw [c]
      have : f j = f (6 * (j / 6) + 2) := by rw [show 6 * (j / 6) + 2 = j by omega]
      rw [this]
      exact i2
  · have e := mo_v f w0 w1 w2 (j / 6) (j % 6) (by omega) (by omega)
    rw [hd] at e
    rw [e]
    exact h j hj
/-- Behind i rounds. -/
def moSt (b : Blk) (st : Int) (off n cap c M : Nat) (g f : Nat → Int) (w0 w1 w2 : Int) (i : Nat) : GS :=
  ⟨tsL [(2, .pointer (some ⟨200, 0, none⟩)), (3, .pointer (some ⟨208, 0, none⟩)), (4, .pointer (some ⟨216, 0, none⟩)), (17, .slice (some ⟨100, off, none⟩) n cap), (18, .int .i64 n), (19, .int .i64 i)],
   hpL G0 [(100, b), (200, stB' st 100 off n cap), (208, ⟨#[.int .i64 w0, .int .i64 w1, .int .i64 w2], .ty 40⟩), (216, stB' st 240 0 n c), (240, ⟨fa M .i64 (mqG g f w0 w1 w2 i), .ty 42⟩)], 300, 0⟩
set_option maxRecDepth 8000 in
set_option maxHeartbeats 4000000 in
theorem moved_fun (b : Blk) (off n cap : Nat) (f : Nat → Int) (h : SB b off n f) (hcap : n ≤ cap) (st w0 w1 w2 : Int) (hs : i64 st) :
    FunS Tryd.prog G0 14 #[.agg #[.int .i64 st, .slice (some ⟨100, off, none⟩) n cap], .agg #[.int .i64 w0, .int .i64 w1, .int .i64 w2]] (hpL G0 [(100, b)]) (keys [(100, b)]) (DriftR 1000 st n (moR st f n w0 w1 w2) (moE st f n w0 w1 w2)) := by
  refine newS_ofL (B := 200) G0F Tryd.func14 rfl Tryd.call14 (oneL_ok h.fx) ?_ driftR_fit (by simp [Tryd.ntmps14]) (by omega) ?_
  · simp [idsV, idsA, idsF, ids0, keys]
  intro C hC hC0 hY
  have hr := fun ρ => Blk.fx_rn h.fx ρ
  have hid := fun D => Blk.fx_ids h.fx D
  have hnn := h.nn
  repeat' (first | refine GW_seq ?_ | simp only [List.length_cons, List.length_nil, Nat.reduceAdd, Nat.reduceMul, wN] | ((first | refine GW_region' [] (by kernel_rfl) ?_ | refine GW_draw' [] follows (by kernel_rfl) (by kernel_rfl) ?_); intro Q hQ hP; simp [hC, hY]; (first | refine hQ _ _ _ _ ?_ | refine hQ _ _ _ _ (by kernel_rfl) ?_ | refine hP _ _ (fun _ => ?_) | refine hP _ _ (by kernel_rfl) (fun _ => ?_)); clear hQ hP Q) | refine GW_block ?_ | refine GW_ret ?_ | refine GW_skip ?_ | refine GW_exit ?_ | refine GW_goto ?_ | refine GW_label ?_ | simp only [blockG_exit] | (refine GW_cond (by simp; rfl) ?_ ?_ <;> (intro hb; first | (exfalso; exact absurd hb (by decide)) | skip)))
  refine GW_list ?_
  simp only [Array.toList]
  refine GL_walk 1 [] rfl (by simp) (by kernel_rfl) ?_; intro q hq; simp [hC, hY]; refine hq _ _ _ _ ?_; clear hq q
  simp only [wT, List.length_cons, List.length_nil, Nat.reduceAdd]
  refine GL_callL (f := .func 32) (cap := #[]) hC (own_at 240 (by omega) b off n cap f h hcap st) rfl (by simp) rfl rfl (by simp [okT]) (by simp [gev]) (by simp) (by simp [okX, junk]) (by simp [gev]) (by simp) (by (intro k hk; first | rfl | (simp (disch := omega) only [addB, List.mem_cons, List.not_mem_nil, or_false, upd_other, hpL_cons, hpL_nil, if_neg, updL] <;> done))) ?_ ?_
  · rintro v ns ⟨c2, M2, g2, h1, h2, h3, rfl, rfl⟩
    simp [keys]
  rintro v ns ⟨c2, M2, g2, h1, h2, h3, rfl, rfl⟩
  refine GL_walk 1 [] rfl (by simp) (by kernel_rfl) ?_; intro q hq; simp [hC, hY, putT, updL]; refine hq _ _ _ _ ?_; clear hq q
  simp only [wT, List.length_cons, List.length_nil, Nat.reduceAdd]
  refine GL_nil ?_
  cases c0 : rightB st f n with
  | false =>
    have hE : moE st f n w0 w1 w2 = 2 := by unfold moE; rw [c0]; rfl
    have hF : moR st f n w0 w1 w2 = f := by unfold moR; rw [hE, if_neg (by omega)]
    rw [hE, hF]
    repeat' (first | refine GW_seq ?_ | simp only [List.length_cons, List.length_nil, Nat.reduceAdd, Nat.reduceMul, wN] | ((first | refine GW_region' [30] (by kernel_rfl) ?_ | refine GW_draw' [30] follows (by kernel_rfl) (by kernel_rfl) ?_); intro Q hQ hP; simp [hC, hY, c0]; (repeat ((first | (refine heapK_mv (rig_fun b off n cap f h st hs) G0F (B := 200) (oneL_ok h.fx) (fun k => k) (fun k hk => rfl) (by simp [ren, renA, renF, ren0]) (by simp) (by simp [hr]) (by simp [keys]) (by simp [keys]; rfl) ?_)); try simp [hC, hY, c0])); (first | refine hQ _ _ _ _ ?_ | refine hQ _ _ _ _ (by kernel_rfl) ?_ | refine hP _ _ (fun _ => ?_) | refine hP _ _ (by kernel_rfl) (fun _ => ?_)); clear hQ hP Q) | refine GW_block ?_ | refine GW_ret ?_ | refine GW_skip ?_ | refine GW_exit ?_ | refine GW_goto ?_ | refine GW_label ?_ | simp only [blockG_exit] | (refine GW_cond (by simp; rfl) ?_ ?_ <;> (intro hb; first | (exfalso; exact absurd hb (by decide)) | skip)))
    refine ⟨.inr trivial, keep_of G0F (by simp) (by (intro k hk; first | rfl | (simp (disch := omega) only [addB, List.mem_cons, List.not_mem_nil, or_false, upd_other, hpL_cons, hpL_nil, if_neg, updL] <;> done))), _, _, fun k => if k = 1000 then 240 else k, ⟨_, ⟨c2, M2, g2, h1, h2, h3, rfl, rfl⟩, rfl⟩, fun k hk => if_neg (by omega), by simp, by simp, ?_, ?_⟩
    · simp [Tryd.results14, ren, renA, renF, ren0]
    · simp [fa_rn]
  | true =>
    repeat' (first | refine GW_seq ?_ | simp only [List.length_cons, List.length_nil, Nat.reduceAdd, Nat.reduceMul, wN] | ((first | refine GW_region' [30] (by kernel_rfl) ?_ | refine GW_draw' [30] follows (by kernel_rfl) (by kernel_rfl) ?_); intro Q hQ hP; simp [hC, hY, c0]; (repeat ((first | (refine heapK_mv (rig_fun b off n cap f h st hs) G0F (B := 200) (oneL_ok h.fx) (fun k => k) (fun k hk => rfl) (by simp [ren, renA, renF, ren0]) (by simp) (by simp [hr]) (by simp [keys]) (by simp [keys]; rfl) ?_)); try simp [hC, hY, c0])); (first | refine hQ _ _ _ _ ?_ | refine hQ _ _ _ _ (by kernel_rfl) ?_ | refine hP _ _ (fun _ => ?_) | refine hP _ _ (by kernel_rfl) (fun _ => ?_)); clear hQ hP Q) | refine GW_block ?_ | refine GW_ret ?_ | refine GW_skip ?_ | refine GW_exit ?_ | refine GW_goto ?_ | refine GW_label ?_ | simp only [blockG_exit] | (refine GW_cond (by simp; rfl) ?_ ?_ <;> (intro hb; first | (exfalso; exact absurd hb (by decide)) | skip)))
    obtain ⟨N, hN, hlt, hend⟩ := lead (fun i => eaE addI (f (6 * i)) (f (6 * i + 1)) (f (6 * i + 2)) w0 w1 w2 = 0) n
    refine GW_for N (moSt b st off n cap c2 M2 g2 f w0 w1 w2) ?_ ?_ ?_
    · refine weakL _ 300 hC G0F (m0 := [(100, b)]) hC0 (by omega) ?_ ?_ ?_
      · simp [idsV, idsA, idsF, ids0, dom]
      · simp [stB', ids_lit, idsF, ids0, hid, dom, mqG_0, Blk.fx_ids (fa_fx _ _ _)]
      · simp
    · intro i hi
      have hin : i < n := by omega
      have hi' : (i : Int) < n := by omega
      have hz : (0 : Int) ≤ i := by omega
      have hs : Int.bmod ((i : Int) + 1) 18446744073709551616 = ((i + 1 : Nat) : Int) := by rw [bm (by omega) (by omega)]; rfl
      have hld := h.body hin
      have he := hlt i hi
      have hM : i * 6 + 3 ≤ M2 := by omega
      unfold moSt stB'
      repeat' (first | refine GW_seq ?_ | simp only [List.length_cons, List.length_nil, Nat.reduceAdd, Nat.reduceMul, wN] | ((first | refine GW_region' [] (by kernel_rfl) ?_ | refine GW_draw' [] follows (by kernel_rfl) (by kernel_rfl) ?_); intro Q hQ hP; simp [hC, hY, hin, hi', hz, hs, hld, he, eaV_0, hM]; (first | refine hQ _ _ _ _ ?_ | refine hQ _ _ _ _ (by kernel_rfl) ?_ | refine hP _ _ (fun _ => ?_) | refine hP _ _ (by kernel_rfl) (fun _ => ?_)); clear hQ hP Q) | refine GW_block ?_ | refine GW_ret ?_ | refine GW_skip ?_ | refine GW_exit ?_ | refine GW_goto ?_ | refine GW_label ?_ | simp only [blockG_exit] | (refine GW_cond (by simp; rfl) ?_ ?_ <;> (intro hb; first | (exfalso; exact absurd hb (by decide)) | skip)))
      refine weakL _ 300 hC G0F (m0 := [(100, b)]) hC0 (by omega) ?_ ?_ ?_
      · simp [idsV, idsA, idsF, ids0, dom, hs]
      · have hput := mput_row (g := g2) (f := f) (w0 := w0) (w1 := w1) (w2 := w2) h2 hin
        simp [hput, ids_lit, idsF, ids0, hid, dom, Blk.fx_ids (fa_fx _ _ _)]
      · simp
    · by_cases hNn : N = n
      · subst hNn
        have hmi := mo_i64 h.i6 hlt
        have hSo : SB ⟨fa M2 .i64 (mqG g2 f w0 w1 w2 N), .ty 42⟩ 0 N (moF f w0 w1 w2) := nown_sb h2 (fun j hj => mqG_end hj h3) hmi hnn
        unfold moSt stB'
        cases c1 : rightB st (moF f w0 w1 w2) N with
        | true =>
          have hE : moE st f N w0 w1 w2 = 0 := by unfold moE; rw [c0, c1]; rfl
          have hF : moR st f N w0 w1 w2 = moF f w0 w1 w2 := by unfold moR; rw [hE, if_pos rfl]
          rw [hE, hF]
          repeat' (first | refine GW_seq ?_ | simp only [List.length_cons, List.length_nil, Nat.reduceAdd, Nat.reduceMul, wN] | ((first | refine GW_region' [30] (by kernel_rfl) ?_ | refine GW_draw' [30] follows (by kernel_rfl) (by kernel_rfl) ?_); intro Q hQ hP; simp [hC, hY, c1]; (repeat ((first | (refine heapK_mv (rig_fun _ 0 N c2 _ hSo st hs) G0F (B := 200) (oneL_ok hSo.fx) (fun k => if k = 100 then 240 else k) (fun k hk => if_neg (by omega)) (by simp [ren, renA, renF, ren0]) (by simp) (by simp [fa_rn]) (by simp [keys]) (by simp [keys]; rfl) ?_)); try simp [hC, hY, c1])); (first | refine hQ _ _ _ _ ?_ | refine hQ _ _ _ _ (by kernel_rfl) ?_ | refine hP _ _ (fun _ => ?_) | refine hP _ _ (by kernel_rfl) (fun _ => ?_)); clear hQ hP Q) | refine GW_block ?_ | refine GW_ret ?_ | refine GW_skip ?_ | refine GW_exit ?_ | refine GW_goto ?_ | refine GW_label ?_ | simp only [blockG_exit] | (refine GW_cond (by simp; rfl) ?_ ?_ <;> (intro hb; first | (exfalso; exact absurd hb (by decide)) | skip)))
          refine ⟨.inr trivial, keep_of G0F (by simp) (by (intro k hk; first | rfl | (simp (disch := omega) only [addB, List.mem_cons, List.not_mem_nil, or_false, upd_other, hpL_cons, hpL_nil, if_neg, updL] <;> done))), _, _, fun k => if k = 1000 then 240 else k, ⟨_, ⟨c2, M2, _, h1, h2, fun j hj => mqG_end hj h3, rfl, rfl⟩, rfl⟩, fun k hk => if_neg (by omega), by simp, by simp, ?_, ?_⟩
          · simp [Tryd.results14, ren, renA, renF, ren0]
          · simp [fa_rn]
        | false =>
          have hE : moE st f N w0 w1 w2 = 2 := by unfold moE; rw [c0, c1]; rfl
          have hF : moR st f N w0 w1 w2 = f := by unfold moR; rw [hE, if_neg (by omega)]
          rw [hE, hF]
          repeat' (first | refine GW_seq ?_ | simp only [List.length_cons, List.length_nil, Nat.reduceAdd, Nat.reduceMul, wN] | ((first | refine GW_region' [30] (by kernel_rfl) ?_ | refine GW_draw' [30] follows (by kernel_rfl) (by kernel_rfl) ?_); intro Q hQ hP; simp [hC, hY, c1]; (repeat ((first | (refine heapK_mv (rig_fun _ 0 N c2 _ hSo st hs) G0F (B := 200) (oneL_ok hSo.fx) (fun k => if k = 100 then 240 else k) (fun k hk => if_neg (by omega)) (by simp [ren, renA, renF, ren0]) (by simp) (by simp [fa_rn]) (by simp [keys]) (by simp [keys]; rfl) ?_)); try simp [hC, hY, c1])); (first | refine hQ _ _ _ _ ?_ | refine hQ _ _ _ _ (by kernel_rfl) ?_ | refine hP _ _ (fun _ => ?_) | refine hP _ _ (by kernel_rfl) (fun _ => ?_)); clear hQ hP Q) | refine GW_block ?_ | refine GW_ret ?_ | refine GW_skip ?_ | refine GW_exit ?_ | refine GW_goto ?_ | refine GW_label ?_ | simp only [blockG_exit] | (refine GW_cond (by simp; rfl) ?_ ?_ <;> (intro hb; first | (exfalso; exact absurd hb (by decide)) | skip)))
          refine GW_list ?_
          simp only [Array.toList]
          refine GL_walk 1 [] rfl (by simp) (by kernel_rfl) ?_; intro q hq; simp [hC, hY]; refine hq _ _ _ _ ?_; clear hq q
          simp only [wT, List.length_cons, List.length_nil, Nat.reduceAdd]
          refine GL_callL (f := .func 32) (cap := #[]) hC (own_at 340 (by omega) b off N cap f h hcap st) rfl (by simp) rfl rfl (by simp [okT]) (by simp [gev]) (by simp) (by simp [okX, junk]) (by simp [gev]) (by simp) (by (intro k hk; first | rfl | (simp (disch := omega) only [addB, List.mem_cons, List.not_mem_nil, or_false, upd_other, hpL_cons, hpL_nil, if_neg, updL] <;> done))) ?_ ?_
          · rintro v ns ⟨c3, M3, g3, k1, k2, k3, rfl, rfl⟩
            simp [keys]
          rintro v ns ⟨c3, M3, g3, k1, k2, k3, rfl, rfl⟩
          refine GL_walk 2 [] rfl (by simp) (by kernel_rfl) ?_; intro q hq; simp [hC, hY, putT, updL]; refine hq _ _ _ _ ?_; clear hq q
          simp only [wT, List.length_cons, List.length_nil, Nat.reduceAdd]
          refine GL_nil ?_
          repeat' (first | refine GW_seq ?_ | simp only [List.length_cons, List.length_nil, Nat.reduceAdd, Nat.reduceMul, wN] | ((first | refine GW_region' [] (by kernel_rfl) ?_ | refine GW_draw' [] follows (by kernel_rfl) (by kernel_rfl) ?_); intro Q hQ hP; simp [hC, hY]; (first | refine hQ _ _ _ _ ?_ | refine hQ _ _ _ _ (by kernel_rfl) ?_ | refine hP _ _ (fun _ => ?_) | refine hP _ _ (by kernel_rfl) (fun _ => ?_)); clear hQ hP Q) | refine GW_block ?_ | refine GW_ret ?_ | refine GW_skip ?_ | refine GW_exit ?_ | refine GW_goto ?_ | refine GW_label ?_ | simp only [blockG_exit] | (refine GW_cond (by simp; rfl) ?_ ?_ <;> (intro hb; first | (exfalso; exact absurd hb (by decide)) | skip)))
          refine ⟨.inr trivial, keep_of G0F (by simp) (by (intro k hk; first | rfl | (simp (disch := omega) only [addB, List.mem_cons, List.not_mem_nil, or_false, upd_other, hpL_cons, hpL_nil, if_neg, updL] <;> done))), _, _, fun k => if k = 1000 then 340 else k, ⟨_, ⟨c3, M3, g3, k1, k2, k3, rfl, rfl⟩, rfl⟩, fun k hk => if_neg (by omega), by simp, by simp, ?_, ?_⟩
          · simp [Tryd.results14, ren, renA, renF, ren0]
          · simp [fa_rn]
      · have hin : N < n := by omega
        have hi' : (N : Int) < n := by omega
        have hz : (0 : Int) ≤ N := by omega
        have hld := h.body hin
        have he := (eaE_or addI (f (6 * N)) (f (6 * N + 1)) (f (6 * N + 2)) w0 w1 w2).resolve_left (hend.resolve_left hNn)
        have hM : N * 6 + 3 ≤ M2 := by omega
        have hE : moE st f n w0 w1 w2 = 2 := by
          unfold moE
          rw [c0, if_pos rfl, if_neg]
          intro h5
          rw [mo_ok c0 h5 hin] at he
          cases he
        have hF : moR st f n w0 w1 w2 = f := by unfold moR; rw [hE, if_neg (by omega)]
        rw [hE, hF]
        unfold moSt stB'
        repeat' (first | refine GW_seq ?_ | simp only [List.length_cons, List.length_nil, Nat.reduceAdd, Nat.reduceMul, wN] | ((first | refine GW_region' [] (by kernel_rfl) ?_ | refine GW_draw' [] follows (by kernel_rfl) (by kernel_rfl) ?_); intro Q hQ hP; simp [hC, hY, hin, hi', hz, hld, he, hM]; (first | refine hQ _ _ _ _ ?_ | refine hQ _ _ _ _ (by kernel_rfl) ?_ | refine hP _ _ (fun _ => ?_) | refine hP _ _ (by kernel_rfl) (fun _ => ?_)); clear hQ hP Q) | refine GW_block ?_ | refine GW_ret ?_ | refine GW_skip ?_ | refine GW_exit ?_ | refine GW_goto ?_ | refine GW_label ?_ | simp only [blockG_exit] | (refine GW_cond (by simp; rfl) ?_ ?_ <;> (intro hb; first | (exfalso; exact absurd hb (by decide)) | skip)))
        refine GW_list ?_
        simp only [Array.toList]
        refine GL_walk 1 [] rfl (by simp) (by kernel_rfl) ?_; intro q hq; simp [hC, hY]; refine hq _ _ _ _ ?_; clear hq q
        simp only [wT, List.length_cons, List.length_nil, Nat.reduceAdd]
        refine GL_callL (f := .func 32) (cap := #[]) hC (own_at 516 (by omega) b off n cap f h hcap st) rfl (by simp) rfl rfl (by simp [okT]) (by simp [gev]) (by simp) (by simp [okX, junk]) (by simp [gev]) (by simp) (by (intro k hk; first | rfl | (simp (disch := omega) only [addB, List.mem_cons, List.not_mem_nil, or_false, upd_other, hpL_cons, hpL_nil, if_neg, updL] <;> done))) ?_ ?_
        · rintro v ns ⟨c3, M3, g3, k1, k2, k3, rfl, rfl⟩
          simp [keys]
        rintro v ns ⟨c3, M3, g3, k1, k2, k3, rfl, rfl⟩
        refine GL_walk 2 [] rfl (by simp) (by kernel_rfl) ?_; intro q hq; simp [hC, hY, putT, updL]; refine hq _ _ _ _ ?_; clear hq q
        simp only [wT, List.length_cons, List.length_nil, Nat.reduceAdd]
        refine GL_nil ?_
        repeat' (first | refine GW_seq ?_ | simp only [List.length_cons, List.length_nil, Nat.reduceAdd, Nat.reduceMul, wN] | ((first | refine GW_region' [] (by kernel_rfl) ?_ | refine GW_draw' [] follows (by kernel_rfl) (by kernel_rfl) ?_); intro Q hQ hP; simp [hC, hY]; (first | refine hQ _ _ _ _ ?_ | refine hQ _ _ _ _ (by kernel_rfl) ?_ | refine hP _ _ (fun _ => ?_) | refine hP _ _ (by kernel_rfl) (fun _ => ?_)); clear hQ hP Q) | refine GW_block ?_ | refine GW_ret ?_ | refine GW_skip ?_ | refine GW_exit ?_ | refine GW_goto ?_ | refine GW_label ?_ | simp only [blockG_exit] | (refine GW_cond (by simp; rfl) ?_ ?_ <;> (intro hb; first | (exfalso; exact absurd hb (by decide)) | skip)))
        refine ⟨.inr trivial, keep_of G0F (by simp) (by (intro k hk; first | rfl | (simp (disch := omega) only [addB, List.mem_cons, List.not_mem_nil, or_false, upd_other, hpL_cons, hpL_nil, if_neg, updL] <;> done))), _, _, fun k => if k = 1000 then 516 else k, ⟨_, ⟨c3, M3, g3, k1, k2, k3, rfl, rfl⟩, rfl⟩, fun k hk => if_neg (by omega), by simp, by simp, ?_, ?_⟩
        · simp [Tryd.results14, ren, renA, renF, ren0]
        · simp [fa_rn]
end Go.Gy
namespace Go.Gy
set_option linter.unusedSimpArgs false
set_option linter.unusedVariables false
open Go Go.RowKit Go.Proofs
def twoB : Blk := ⟨#[.int .i64 0, .int .i64 0, .int .i64 0, .int .i64 0, .int .i64 0, .int .i64 0, .int .i64 3, .int .i64 0, .int .i64 4, .int .i64 0, .int .i64 0, .int .i64 0], .ty 42⟩
def twoF : Nat → Int := fun j => [0, 0, 0, 0, 0, 0, 3, 0, 4, 0, 0, 0].getD j 0
theorem two_new (k : Nat) (hk : 100 ≤ k) : Fun Tryd.prog G0 24 #[] (hpL G0 []) [] (.new (.agg #[.int .i64 0, .slice (some ⟨k, 0, none⟩) 2 2]) [(k, twoB)]) := by
  have e0 : rst (hpL G0 []) [] = hpL G0 [] := hpL_rst G0F (by simp)
  have hdom : ∀ j, dom (hpL G0 []) j → j < 100 := fun j hj => by
    unfold dom at hj
    cases hq : hpL G0 [] j with
    | none => exact absurd hq hj
    | some q =>
      rcases hpL_mem hq with h | h
      · simp at h
      · exact (G0F j q h).1
  refine new_of (B := 100000) (fun j => if j = k then 100032 else j) G0F (fun j hj => hpL_low (by simp) hj) Tryd.func24 rfl Tryd.call24 ?_ ?_ ?_ (by simp [Tryd.ntmps24]) (by omega) ?_ (fun j hj => ?_) ?_ ?_ ?_ ?_
  · simp
  · rw [e0]
    intro j q hq
    rcases hpL_mem hq with h | h
    · simp at h
    · exact G0_closed _ _ _ h
  · refine ⟨by simp [idsV, idsA, idsF, ids0, extD, keys], by simp [keys]; omega, fun q b c h1 h2 => ?_⟩
    simp at h1 h2
    rw [h1.2, h2.2]
  · rw [e0]
    intro x hx
    cases hq : hpL G0 [] x with
    | none => rfl
    | some q => have := hdom x (by unfold dom; rw [hq]; simp); omega
  · rw [e0] at hj
    have h := hdom j hj
    rw [if_neg (by omega)]
  · rw [e0]
    intro p hp
    simp at hp
    subst hp
    refine ⟨fun h => ?_, by simp⟩
    have := hdom _ h
    simp at this
  · simp
  · rw [e0]; simp [twoB, idsF, ids0, ids_lit]
  · intro C hC hC0 hY
    rw [e0]
    repeat' (first | refine GW_seq ?_ | simp only [List.length_cons, List.length_nil, Nat.reduceAdd, Nat.reduceMul, wN] | ((first | refine GW_region' [] (by kernel_rfl) ?_ | refine GW_draw' [] follows (by kernel_rfl) (by kernel_rfl) ?_); intro Q hQ hP; simp [hC, hY]; (first | refine hQ _ _ _ _ ?_ | refine hQ _ _ _ _ (by kernel_rfl) ?_ | refine hP _ _ (fun _ => ?_) | refine hP _ _ (by kernel_rfl) (fun _ => ?_)); clear hQ hP Q) | refine GW_block ?_ | refine GW_ret ?_ | refine GW_skip ?_ | refine GW_exit ?_ | refine GW_goto ?_ | refine GW_label ?_ | simp only [blockG_exit] | (refine GW_cond (by simp; rfl) ?_ ?_ <;> (intro hb; first | (exfalso; exact absurd hb (by decide)) | skip)))
    refine ⟨.inr trivial, ?_⟩
    simp [Tryd.results24, ren, renA, renF, ren0, twoB, Blk.rn]
    refine ⟨by kernel_rfl, fun j hj => ?_⟩
    have := hdom j (by simpa using hj)
    rw [if_neg (by omega), if_neg (by omega), if_neg (by omega)]
theorem heapK_two {hp : Hp} {nk : Nat} {K : Eff → Prop} (hnk : 100 ≤ nk) (h : K ⟨.agg #[.int .i64 0, .slice (some ⟨nk, 0, none⟩) 2 2], [], [], [(nk, twoB)], none, false⟩) : heapK Tryd.prog G0 24 #[] hp nk K :=
  heapK_of (two_new nk hnk) (by simp) (fun k hk => hpL_low (by simp) hk) (by simp [Res.at, keys]) h
theorem twoSB : SB twoB 0 2 twoF := by
  have e : twoB = ⟨fa 12 .i64 twoF, .ty 42⟩ := by unfold twoB; congr 1
  rw [e]
  refine ⟨rdI_fa _ _ _, fa_fx _ _ _, fun j hj => ?_, by omega⟩
  have : j = 0 ∨ j = 1 ∨ j = 2 ∨ j = 3 ∨ j = 4 ∨ j = 5 ∨ j = 6 ∨ j = 7 ∨ j = 8 ∨ j = 9 ∨ j = 10 ∨ j = 11 := by omega
  rcases this with rfl | rfl | rfl | rfl | rfl | rfl | rfl | rfl | rfl | rfl | rfl | rfl <;> simp [twoF, i64]
def msB : Blk := ⟨#[.int .i64 1, .int .i64 1], .ty 3⟩
def msF : Nat → Int := fun _ => 1
theorem msMB : MB msB 0 2 msF := by
  have e : msB = ⟨fa 2 .i64 msF, .ty 3⟩ := by unfold msB; congr 1
  rw [e]
  exact ⟨rdI_fa _ _ _, fa_fx _ _ _, fun j hj => by simp [msF, i64], by omega⟩
/-! what wakes asks -/
theorem wk_prs : prs 0 twoF 2 = [(0, 1, 25)] := by decide +kernel
theorem wk_ck5 : nkE (cfOk 2 msF 1 9 9 5 0) (rightB 0 twoF 2) 5 (prs 0 twoF 2) = 0 := by decide +kernel
theorem wk_ck6 : nkE (cfOk 2 msF 1 9 9 6 0) (rightB 0 twoF 2) 6 (prs 0 twoF 2) = 130 := by decide +kernel
theorem wk_near : nearL (cfOk 2 msF 1 9 9 6 0) 6 (prs 0 twoF 2) = [(0, 1, 25)] := by decide +kernel
theorem wk_ls : lsAll (prs 0 twoF 2) = (0, 1, 25) := by decide +kernel
theorem wk_way : wyLo 25 = 5 ∧ wyHi 25 = 5 ∧ wyLo 26 = 5 ∧ wyHi 26 = 6 := by decide +kernel
theorem wk_mo : moE 0 twoF 2 1 0 0 = 0 := by decide +kernel
theorem wk_mf : moR 0 twoF 2 1 0 0 6 = 4 ∧ moR 0 twoF 2 1 0 0 7 = 0 ∧ moR 0 twoF 2 1 0 0 8 = 4 := by decide +kernel
end Go.Gy
namespace Go.Gy
set_option linter.unusedSimpArgs false
set_option linter.unusedVariables false
open Go Go.RowKit Go.Proofs
theorem moved_at (nb nk : Nat) (hb1 : 100 ≤ nb) (hk1 : 100 ≤ nk) (hbk : nb ≠ nk) (b : Blk) (off n cap : Nat) (f : Nat → Int) (h : SB b off n f) (hcap : n ≤ cap) (st w0 w1 w2 : Int) (hs : i64 st) :
    FunS Tryd.prog G0 14 #[.agg #[.int .i64 st, .slice (some ⟨nb, off, none⟩) n cap], .agg #[.int .i64 w0, .int .i64 w1, .int .i64 w2]] (hpL G0 [(nb, b)]) [nb] (DriftR nk st n (moR st f n w0 w1 w2) (moE st f n w0 w1 w2)) := by
  have hr := fun ρ => Blk.fx_rn h.fx ρ
  refine (moved_fun b off n cap f h hcap st w0 w1 w2 hs).mvL G0F (oneL_ok h.fx) (nn2 nb nk) nn2_low (by simp [ren, renA, renF, ren0, nn2_b]) (by simp [keys, nn2_b]) (driftR_rr nn2_k) (at_low hb1) (by simp [nn2_b, hr, hb1]) (by simp [keys]) (fun v ns hV k hk => ?_) (fun v ns hV k hk l hl _ => by rw [driftR_key hV k hk, driftR_key hV l hl])
  rw [driftR_key hV k hk, nn2_k]
  simp
  exact ⟨hk1, fun e => hbk e.symm⟩
theorem leastV_two : LeastV (prs 0 twoF 2) = .tuple #[.agg #[.int .i64 0, .int .i64 1, .int .i64 25], .bool true] := by
  unfold LeastV
  rw [wk_ls]
  rfl
end Go.Gy
namespace Go.Gy
set_option linter.unusedSimpArgs false
set_option linter.unusedVariables false
open Go Go.RowKit
/-- As far as it has come: operation i's slot, its value, its block. -/
structure TI (N : List (Nat × Nat)) (V : Nat → Value) (X : List (Nat × Nat)) (Bk : Nat → Blk) (ts0 : Nat → Value) (hp0 : Hp) (listed : Array Bool) (ts : Nat → Value) (hp : Hp) : Prop where
  t0 : ∀ t, t ∉ N.map Prod.snd → ts t = ts0 t
  tm : ∀ p ∈ N, listed[p.1]? = some true → ts p.2 = V p.1
  h0 : ∀ k, k ∉ X.map Prod.snd → hp k = hp0 k
  bx : ∀ q ∈ X, listed[q.1]? = some true → hp q.2 = some (Bk q.1)
theorem ti_set {listed : Array Bool} {i j : Nat} (h : (listed.setIfInBounds i true)[j]? = some true) : j = i ∨ listed[j]? = some true := by
  rw [Array.getElem?_setIfInBounds] at h
  split at h
  · rename_i e; exact .inl e.symm
  · exact .inr h
theorem ti_snd {N : List (Nat × Nat)} (h : (N.map Prod.snd).Nodup) {p q : Nat × Nat} (hp : p ∈ N) (hq : q ∈ N) (e : p.2 = q.2) : p = q := by
  induction N with
  | nil => cases hp
  | cons a l ih =>
    simp only [List.map_cons, List.nodup_cons] at h
    rcases List.mem_cons.1 hp with rfl | hp1 <;> rcases List.mem_cons.1 hq with rfl | hq1
    · rfl
    · exact absurd (List.mem_map.2 ⟨q, hq1, e.symm⟩) h.1
    · exact absurd (List.mem_map.2 ⟨p, hp1, e⟩) h.1
    · exact ih h.2 hp1 hq1
theorem ti_fst {N : List (Nat × Nat)} (h : (N.map Prod.fst).Nodup) {p q : Nat × Nat} (hp : p ∈ N) (hq : q ∈ N) (e : p.1 = q.1) : p = q := by
  induction N with
  | nil => cases hp
  | cons a l ih =>
    simp only [List.map_cons, List.nodup_cons] at h
    rcases List.mem_cons.1 hp with rfl | hp1 <;> rcases List.mem_cons.1 hq with rfl | hq1
    · rfl
    · exact absurd (List.mem_map.2 ⟨q, hq1, e.symm⟩) h.1
    · exact absurd (List.mem_map.2 ⟨p, hp1, e⟩) h.1
    · exact ih h.2 hp1 hq1
section
variable {N X : List (Nat × Nat)} {V : Nat → Value} {Bk : Nat → Blk} {ts0 ts : Nat → Value} {hp0 hp : Hp} {listed : Array Bool}
theorem TI.start (hl : ∀ j : Nat, listed[j]? ≠ some true) : TI N V X Bk ts0 hp0 listed ts0 hp0 := ⟨fun _ _ => rfl, fun p _ h => absurd h (hl _), fun _ _ => rfl, fun q _ h => absurd h (hl _)⟩
theorem TI.tmp (hN1 : (N.map Prod.fst).Nodup) (hN2 : (N.map Prod.snd).Nodup) (h : TI N V X Bk ts0 hp0 listed ts hp) {i t : Nat} {v : Value} (hm : (i, t) ∈ N) (hv : V i = v) (hx : i ∉ X.map Prod.fst) : TI N V X Bk ts0 hp0 (listed.setIfInBounds i true) (upd ts t v) hp := by
  refine ⟨fun u hu => ?_, fun p hp1 hl => ?_, h.h0, fun q hq hl => ?_⟩
  · rw [upd_other _ _ (fun e => hu (List.mem_map.2 ⟨_, hm, e.symm⟩))]
    exact h.t0 u hu
  · by_cases e : p.2 = t
    · have := ti_snd hN2 hp1 hm e
      subst this
      rw [← hv]
      exact upd_same _ _ _
    · rw [upd_other _ _ e]
      rcases ti_set hl with e1 | h1
      · exact absurd (congrArg Prod.snd (ti_fst hN1 hp1 hm e1)) e
      · exact h.tm p hp1 h1
  · rcases ti_set hl with e1 | h1
    · exact absurd (List.mem_map.2 ⟨q, hq, e1⟩) hx
    · exact h.bx q hq h1
theorem TI.new (hN1 : (N.map Prod.fst).Nodup) (hN2 : (N.map Prod.snd).Nodup) (hX1 : (X.map Prod.fst).Nodup) (hX2 : (X.map Prod.snd).Nodup) (h : TI N V X Bk ts0 hp0 listed ts hp) {i t k : Nat} {v : Value} {b : Blk} (hm : (i, t) ∈ N) (hv : V i = v) (hx : (i, k) ∈ X) (hb : Bk i = b) : TI N V X Bk ts0 hp0 (listed.setIfInBounds i true) (upd ts t v) (upd hp k (some b)) := by
  refine ⟨fun u hu => ?_, fun p hp1 hl => ?_, fun u hu => ?_, fun q hq hl => ?_⟩
  · rw [upd_other _ _ (fun e => hu (List.mem_map.2 ⟨_, hm, e.symm⟩))]
    exact h.t0 u hu
  · by_cases e : p.2 = t
    · have := ti_snd hN2 hp1 hm e
      subst this
      rw [← hv]
      exact upd_same _ _ _
    · rw [upd_other _ _ e]
      rcases ti_set hl with e1 | h1
      · exact absurd (congrArg Prod.snd (ti_fst hN1 hp1 hm e1)) e
      · exact h.tm p hp1 h1
  · rw [upd_other _ _ (fun e => hu (List.mem_map.2 ⟨_, hx, e.symm⟩))]
    exact h.h0 u hu
  · by_cases e : q.2 = k
    · have := ti_snd hX2 hq hx e
      subst this
      rw [← hb]
      exact upd_same _ _ _
    · rw [upd_other _ _ e]
      rcases ti_set hl with e1 | h1
      · exact absurd (congrArg Prod.snd (ti_fst hX1 hq hx e1)) e
      · exact h.bx q hq h1
/-- What is not yet done may be said otherwise. -/
theorem TI.chg {V' : Nat → Value} {Bk' : Nat → Blk} (h : TI N V X Bk ts0 hp0 listed ts hp) (hv : ∀ p ∈ N, listed[p.1]? = some true → V p.1 = V' p.1) (hb : ∀ q ∈ X, listed[q.1]? = some true → Bk q.1 = Bk' q.1) : TI N V' X Bk' ts0 hp0 listed ts hp :=
  ⟨h.t0, fun p hp1 hl => (h.tm p hp1 hl).trans (hv p hp1 hl), h.h0, fun q hq hl => (h.bx q hq hl).trans (by rw [hb q hq hl])⟩
end
section
variable {P : Program} {C : Ctx} {n : Nat} {d : List Deferred} {ro : Option Nat} {K : Exit → GS → Prop}
theorem GA_gen {ops : Array Oper} {base fuel yc : Nat} {listed : Array Bool} {ts : Nat → Value} {hp : Hp} (F : (Nat → Value) → Hp → Prop) (h : F ts hp) (H : ∀ ts0 hp0, F ts0 hp0 → GA P C n d ro ops base fuel listed ts0 hp0 yc K) : GA P C n d ro ops base fuel listed ts hp yc K := H _ _ h
/-- A guarded call that hands back any of a kind. -/
theorem GO_callG {G : Hp} {ops : Array Oper} {o : Oper} {base i fuel : Nat} {listed : Array Bool} {ts : Nat → Value} {hp hp' : Hp} {yc : Nat} {c : Call} {f : Operand} {g : FuncId} {cap : Array Value} {rs : List Nat} {args : Array Value} {R : Value → List (Nat × Blk) → Prop} (hCG : C.G = G) (hr : FunS P G g args hp' rs R) (hio : ops[i]? = some o) (hi : listed[i]? = some false) (hg : wantedG ops o ts = some true) (hd : ∀ dd, o.dst = some dd → dd < n)
    (ho : o.op = .call c) (hc : c.callee = .value f) (hf : okT ts f) (hgf : gev ts f = .func (.func g) #[] cap) (hcp : cap.all plain0 = true) (ha : ∀ x ∈ c.args.toList, okX ts hp x) (hargs : c.args.map (gev ts) ++ cap = args)
    (h1 : ∀ q ∈ rs, hp' q = hp q) (h2 : ∀ q, q < 100 → hp' q = hp q) (hat : ∀ v ns, R v ns → ∀ q ∈ keys ns, base + 8 * i ≤ q ∧ q < base + 8 * i + 8)
    (h : ∀ v ns, R v ns → GA P C n d ro ops base fuel (listed.setIfInBounds i true) (putT ts o.dst v) (updL hp ns) yc K) : GO P C n d ro ops base fuel listed i ts hp yc K := by
  subst hCG
  intro r a W hRI hfr hb hG hR
  unfold wpOpIn
  rw [hio]
  simp only
  rw [wantedG_eq hRI.rel hg]
  simp only [if_true]
  refine step_callS hG hRI hd ho hc hf hgf hcp ha (by rw [hargs]; exact hr.under fun q hq => hq.elim (h2 q) (h1 q)) (fun v ns hRv q hq => hfr.at' i hi q (hat v ns hRv q hq).1 (hat v ns hRv q hq).2) (fun v ns hRv r' a' W' hi' => h v ns hRv r' a' W' hi' (hfr.after (Array.getElem?_eq_some_iff.1 hio).1 fun x hx hx1 => ?_) hb hG hR)
  rw [updL_other (fun hm => hx1 (hat v ns hRv x hm))]
  exact hx
end
end Go.Gy
namespace Go.Gy
set_option linter.unusedSimpArgs false
set_option linter.unusedVariables false
open Go Go.RowKit Go.Proofs
/-! the last region's table -/
def wkN : List (Nat × Nat) := [(0, 50), (1, 51), (2, 52), (3, 53), (4, 54), (5, 55), (6, 56), (7, 57), (8, 58), (9, 59), (10, 60), (11, 61), (12, 62), (13, 63), (14, 64), (15, 65), (16, 66), (17, 67), (18, 68), (19, 69), (20, 70), (21, 71), (22, 72), (23, 73), (24, 74), (25, 75), (26, 76), (27, 77), (28, 78), (29, 79), (30, 80), (31, 81), (32, 82), (33, 83), (34, 84), (35, 85), (36, 86), (37, 87), (38, 88), (39, 89), (40, 90), (41, 91), (42, 92), (43, 93), (44, 94), (45, 95), (46, 96), (47, 97), (48, 98), (49, 99), (50, 100), (51, 101), (52, 102), (53, 103), (54, 104), (55, 105), (56, 106), (57, 107), (58, 108), (59, 109), (60, 110), (61, 111), (62, 112), (63, 113), (64, 114), (65, 115), (66, 116), (67, 0)]
def wkX : List (Nat × Nat) := [(11, 720), (17, 768), (18, 776), (63, 1136)]
def wkV (cl cm c : Nat) : Nat → Value
  | 0 => .slice (some ⟨248, 0, none⟩) 1 cl
  | 1 => .pointer (some ⟨248, 0, none⟩)
  | 2 => .agg #[.int .i64 0, .int .i64 1, .int .i64 25]
  | 3 => .agg #[.int .i64 0, .int .i64 1, .int .i64 25]
  | 4 => .bool true
  | 5 => .bool true
  | 6 => .int .i64 0
  | 7 => .bool true
  | 8 => .bool true
  | 9 => .bool true
  | 10 => .agg #[.slice (some ⟨208, 0, none⟩) 2 2, .int .i64 1, .int .i64 9, .int .i64 9, .int .i64 6, .int .i64 0]
  | 11 => .agg #[.int .i64 0, .slice (some ⟨720, 0, none⟩) 2 2]
  | 12 => .int .i64 130
  | 13 => .bool true
  | 14 => .bool true
  | 15 => .bool true
  | 16 => .agg #[.slice (some ⟨208, 0, none⟩) 2 2, .int .i64 1, .int .i64 9, .int .i64 9, .int .i64 6, .int .i64 0]
  | 17 => .agg #[.int .i64 0, .slice (some ⟨768, 0, none⟩) 2 2]
  | 18 => .slice (some ⟨776, 0, none⟩) 1 c
  | 19 => .int .i64 1
  | 20 => .bool true
  | 21 => .bool true
  | 22 => .bool true
  | 23 => .agg #[.int .i64 0, .int .i64 1, .int .i64 25]
  | 24 => .slice (some ⟨248, 0, none⟩) 1 cl
  | 25 => .pointer (some ⟨248, 0, none⟩)
  | 26 => .agg #[.int .i64 0, .int .i64 1, .int .i64 25]
  | 27 => .bool true
  | 28 => .bool true
  | 29 => .bool true
  | 30 => .bool true
  | 31 => .bool true
  | 32 => .bool true
  | 33 => .int .i64 5
  | 34 => .bool true
  | 35 => .bool true
  | 36 => .bool true
  | 37 => .int .i64 5
  | 38 => .bool true
  | 39 => .bool true
  | 40 => .bool true
  | 41 => .int .i64 5
  | 42 => .bool true
  | 43 => .bool true
  | 44 => .bool true
  | 45 => .int .i64 6
  | 46 => .bool true
  | 47 => .bool true
  | 48 => .bool true
  | 49 => .int .i64 0
  | 50 => .bool true
  | 51 => .bool true
  | 52 => .bool true
  | 53 => .pointer (some ⟨536, 1, none⟩)
  | 54 => .slice (some ⟨504, 0, none⟩) 2 cm
  | 55 => .pointer (some ⟨504, 6, none⟩)
  | 56 => .pointer (some ⟨504, 6, none⟩)
  | 57 => .agg #[.int .i64 4, .int .i64 0, .int .i64 4]
  | 58 => .agg #[.int .i64 4, .int .i64 0, .int .i64 4]
  | 59 => .bool true
  | 60 => .bool true
  | 61 => .bool true
  | 62 => .agg #[.slice none 0 0, .int .i64 0, .int .i64 0, .int .i64 0, .int .i64 0, .int .i64 0]
  | 63 => .agg #[.int .i64 0, .slice (some ⟨1136, 0, none⟩) 2 2]
  | 64 => .int .i64 2
  | 65 => .bool true
  | 66 => .bool true
  | 67 => .bool true
  | _ => .bool true
def wkBk (c : Nat) (g : Nat → Int) : Nat → Blk
  | 11 => twoB
  | 17 => twoB
  | 18 => ⟨fa (3 * c) .i64 g, .ty 36⟩
  | 63 => twoB
  | _ => twoB
structure WkF (cl cm Mm : Nat) (gl gm : Nat → Int) (ts0 : Nat → Value) (hp0 : Hp) : Prop where
  e1 : ts0 1 = .pointer (some ⟨224, 0, none⟩)
  e2 : ts0 2 = .slice (some ⟨248, 0, none⟩) 1 cl
  e3 : ts0 3 = .int .i64 0
  e4 : ts0 4 = .pointer (some ⟨352, 0, none⟩)
  e5 : ts0 5 = .bool true
  e6 : ts0 6 = .int .i64 5
  e7 : ts0 7 = .int .i64 5
  e8 : ts0 8 = .int .i64 5
  e9 : ts0 9 = .int .i64 6
  e10 : ts0 10 = .pointer (some ⟨536, 0, none⟩)
  e11 : ts0 11 = .int .i64 0
  b208 : hp0 208 = some msB
  b224 : hp0 224 = some (cfB (.slice (some ⟨208, 0, none⟩) 2 2) 1 9 9 6 0)
  b248 : hp0 248 = some ⟨fa (3 * cl) .i64 gl, .ty 36⟩
  b352 : hp0 352 = some ⟨#[.int .i64 0, .int .i64 1, .int .i64 25], .ty 36⟩
  b504 : hp0 504 = some ⟨fa Mm .i64 gm, .ty 42⟩
  b536 : hp0 536 = some ⟨#[.int .i64 0, .slice (some ⟨504, 0, none⟩) 2 cm], .ty 27⟩
  low : ∀ k, k < 100 → hp0 k = G0 k
theorem wkN1 : (wkN.map Prod.fst).Nodup := by decide +kernel
theorem wkN2 : (wkN.map Prod.snd).Nodup := by decide +kernel
theorem wkX1 : (wkX.map Prod.fst).Nodup := by decide +kernel
theorem wkX2 : (wkX.map Prod.snd).Nodup := by decide +kernel
theorem wkX100 : ∀ k, k < 100 → k ∉ wkX.map Prod.snd := fun k hk => by simp [wkX]; omega
theorem wk_near_at (j0 : i64 0) : FunS Tryd.prog G0 10 #[cfV (.slice (some ⟨208, 0, none⟩) 2 2) 1 9 9 6 0, .agg #[.int .i64 0, .slice (some ⟨768, 0, none⟩) 2 2]] (hpL G0 [(208, msB), (768, twoB)]) [208, 768] (PrR 776 1 (pF [(0, 1, 25)])) := by
  have h := nNear_fun msB twoB 0 2 2 0 2 2 msF twoF msMB twoSB (Nat.le_refl _) 1 9 9 6 0 0 j0
  rw [wk_near] at h
  have hmr := fun ρ => Blk.fx_rn msMB.fx ρ
  have htr := fun ρ => Blk.fx_rn twoSB.fx ρ
  refine h.mvL G0F (ncL_ok msMB.fx twoSB.fx) (fun k => if k = 100 then 208 else if k = 108 then 768 else if k = 1000 then 776 else k) (fun k hk => (if_neg (by omega)).trans ((if_neg (by omega)).trans (if_neg (by omega)))) (by simp [cfV, ren, renA, renF, ren0]) (by simp [ncL, keys]) (prR_rr rfl) ?_ (by simp [ncL, hmr, htr]) (by simp [ncL, keys]) (fun v ns hV k hk => ?_) (fun v ns hV k hk l hl _ => by rw [prR_key hV k hk, prR_key hV l hl])
  · intro k hk
    simp (disch := omega) only [hpL_cons, hpL_nil, if_neg]
  · rw [prR_key hV k hk]
    simp
set_option maxRecDepth 8000 in
set_option maxHeartbeats 16000000 in
theorem wakes13_ret : Ret Tryd.prog G0 8 #[] (.bool true) := by
  refine ret_of G0F Tryd.func8 rfl Tryd.call8 rfl (by simp) (by simp [Tryd.ntmps8]) ?_
  intro C hC hC0 hY
  have j0 : i64 0 := i64_n (by omega)
  have j25 : i64 25 := i64_n (by omega)
  have j26 : i64 26 := i64_n (by omega)
  obtain ⟨y0, y1, y2, y3⟩ := wk_way
  repeat' (first | refine GW_seq ?_ | simp only [List.length_cons, List.length_nil, Nat.reduceAdd, Nat.reduceMul, wN] | ((first | refine GW_region' [] (by kernel_rfl) ?_ | refine GW_draw' [] follows (by kernel_rfl) (by kernel_rfl) ?_); intro Q hQ hP; simp [hC, hY]; (first | refine hQ _ _ _ _ ?_ | refine hQ _ _ _ _ (by kernel_rfl) ?_ | refine hP _ _ (fun _ => ?_) | refine hP _ _ (by kernel_rfl) (fun _ => ?_)); clear hQ hP Q) | refine GW_block ?_ | refine GW_ret ?_ | refine GW_skip ?_ | refine GW_exit ?_ | refine GW_goto ?_ | refine GW_label ?_ | simp only [blockG_exit] | (refine GW_cond (by simp; rfl) ?_ ?_ <;> (intro hb; first | (exfalso; exact absurd hb (by decide)) | skip)))
  refine GW_list ?_
  simp only [Array.toList]
  refine GL_walk 1 [24] rfl (by simp) (by kernel_rfl) ?_; intro q hq; simp [hC, hY]; (repeat ((first | (refine heapK_two (by omega) ?_)); try simp [hC, hY])); refine hq _ _ _ _ ?_; clear hq q
  simp only [wT, List.length_cons, List.length_nil, Nat.reduceAdd]
  have hp1 := nPairs_at 240 248 (by omega) (by omega) (by omega) twoB 0 2 2 twoF twoSB (Nat.le_refl _) 0 j0
  rw [wk_prs] at hp1
  refine GL_callL (f := .func 9) (cap := #[]) hC hp1 rfl (by simp) rfl rfl (by simp [okT]) (by simp [gev]) (by simp) (by simp [okX, junk]) (by simp [gev]) (by simp) (by (intro k hk; first | rfl | (simp (disch := omega) only [addB, List.mem_cons, List.not_mem_nil, or_false, upd_other, hpL_cons, hpL_nil, if_neg, updL] <;> done))) ?_ ?_
  · intro v ns hV k hk
    rw [prR_key hV k hk]
    omega
  rintro v ns (⟨h0, _⟩ | ⟨cl, gl, _, hl2, hl3, rfl, rfl⟩)
  · simp at h0
  refine GL_walk 1 [] rfl (by simp) (by kernel_rfl) ?_; intro q hq; simp [hC, hY, putT, updL]; refine hq _ _ _ _ ?_; clear hq q
  simp only [wT, List.length_cons, List.length_nil, Nat.reduceAdd]
  refine GL_nil ?_
  have hck := nCheck_fun msB twoB 0 2 2 0 2 2 msF twoF msMB twoSB (Nat.le_refl _) 1 9 9 5 0 0 j0
  rw [wk_ck5] at hck
  have hls := least_fun twoB 0 2 2 twoF twoSB (Nat.le_refl _) 0 j0
  rw [leastV_two] at hls
  have hmr := fun ρ => Blk.fx_rn msMB.fx ρ
  have htr := fun ρ => Blk.fx_rn twoSB.fx ρ
  repeat' (first | refine GW_seq ?_ | simp only [List.length_cons, List.length_nil, Nat.reduceAdd, Nat.reduceMul, wN] | ((first | refine GW_region' [24, 13, 12] (by kernel_rfl) ?_ | refine GW_draw' [24, 13, 12] follows (by kernel_rfl) (by kernel_rfl) ?_); intro Q hQ hP; simp [hC, hY, j25, j26, y0, y1, y2, y3]; (repeat ((first | (refine heapK_two (by omega) ?_) | (refine heapK_mv hck G0F (B := 200) (ncL_ok msMB.fx twoSB.fx) (fun k => if k = 100 then 208 else if k = 108 then 272 else k) (fun k hk => (if_neg (by omega)).trans (if_neg (by omega))) (by simp [cfV, ren, renA, renF, ren0]) (by simp) (by simp [ncL, hmr, htr]; simp [msB]) (by simp [keys, ncL]) (by simp [keys, ncL]; rfl) ?_) | (refine heapK_mv hls G0F (B := 200) (oneL_ok twoSB.fx) (fun k => if k = 100 then 312 else k) (fun k hk => if_neg (by omega)) (by simp [ren, renA, renF, ren0]) (by simp) (by simp [htr]) (by simp [keys]) (by simp [keys]; rfl) ?_)); try simp [hC, hY, j25, j26, y0, y1, y2, y3])); (first | refine hQ _ _ _ _ ?_ | refine hQ _ _ _ _ (by kernel_rfl) ?_ | refine hP _ _ (fun _ => ?_) | refine hP _ _ (by kernel_rfl) (fun _ => ?_)); clear hQ hP Q) | refine GW_block ?_ | refine GW_ret ?_ | refine GW_skip ?_ | refine GW_exit ?_ | refine GW_goto ?_ | refine GW_label ?_ | simp only [blockG_exit] | (refine GW_cond (by simp; rfl) ?_ ?_ <;> (intro hb; first | (exfalso; exact absurd hb (by decide)) | skip)))
  refine GW_list ?_
  simp only [Array.toList]
  refine GL_walk 2 [24] rfl (by simp) (by kernel_rfl) ?_; intro q hq; simp [hC, hY]; (repeat ((first | (refine heapK_two (by omega) ?_)); try simp [hC, hY])); refine hq _ _ _ _ ?_; clear hq q
  simp only [wT, List.length_cons, List.length_nil, Nat.reduceAdd]
  have hmv := moved_at 488 504 (by omega) (by omega) (by omega) twoB 0 2 2 twoF twoSB (Nat.le_refl _) 0 1 0 0 j0
  rw [wk_mo] at hmv
  refine GL_callL (f := .func 14) (cap := #[]) hC hmv rfl (by simp) rfl rfl (by simp [okT]) (by simp [gev]) (by simp) (by simp [okX, junk]) (by simp [gev]) (by simp) (by (intro k hk; first | rfl | (simp (disch := omega) only [addB, List.mem_cons, List.not_mem_nil, or_false, upd_other, hpL_cons, hpL_nil, if_neg, updL] <;> done))) ?_ ?_
  · intro v ns hV k hk
    rw [driftR_key hV k hk]
    omega
  rintro v ns ⟨w, ⟨cm, Mm, gm, m1, m2, m3, rfl, rfl⟩, rfl⟩
  refine GL_walk 6 [] rfl (by simp) (by kernel_rfl) ?_; intro q hq; simp [hC, hY, putT, updL]; refine hq _ _ _ _ ?_; clear hq q
  simp only [wT, List.length_cons, List.length_nil, Nat.reduceAdd]
  refine GL_nil ?_
  repeat' (first | refine GW_seq ?_ | simp only [List.length_cons, List.length_nil, Nat.reduceAdd, Nat.reduceMul, wN] | ((first | refine GW_region' [] (by kernel_rfl) ?_ | refine GW_draw' [] follows (by kernel_rfl) (by kernel_rfl) ?_); intro Q hQ hP; simp [hC, hY]; (first | refine hQ _ _ _ _ ?_ | refine hQ _ _ _ _ (by kernel_rfl) ?_ | refine hP _ _ (fun _ => ?_) | refine hP _ _ (by kernel_rfl) (fun _ => ?_)); clear hQ hP Q) | refine GW_block ?_ | refine GW_ret ?_ | refine GW_skip ?_ | refine GW_exit ?_ | refine GW_goto ?_ | refine GW_label ?_ | simp only [blockG_exit] | (refine GW_cond (by simp; rfl) ?_ ?_ <;> (intro hb; first | (exfalso; exact absurd hb (by decide)) | skip)))
  have hck6 := nCheck_fun msB twoB 0 2 2 0 2 2 msF twoF msMB twoSB (Nat.le_refl _) 1 9 9 6 0 0 j0
  rw [wk_ck6] at hck6
  have hck0 := nCheck0_fun twoB twoSB.fx 0 2 2 0 0 0 0 0 0
  have hnr := wk_near_at j0
  have g0 : gl 0 = 0 := (hl3 0 (by simp)).trans rfl
  have g1 : gl 1 = 1 := (hl3 1 (by simp)).trans rfl
  have g2 : gl 2 = 25 := (hl3 2 (by simp)).trans rfl
  have hldl := pr_at (m := 1) (i := 0) (T := .ty 36) (a := gl) (by omega) hl2 rfl
  simp only [Nat.mul_zero, Nat.zero_mul, Nat.zero_add, g0, g1, g2] at hldl
  have q0 : gm 6 = 4 := (m3 6 (by omega)).trans wk_mf.1
  have q1 : gm 7 = 0 := (m3 7 (by omega)).trans wk_mf.2.1
  have q2 : gm 8 = 4 := (m3 8 (by omega)).trans wk_mf.2.2
  have hldv : loadK Tryd.prog 40 ⟨fa Mm .i64 gm, .ty 42⟩ 6 = some (.agg #[.int .i64 4, .int .i64 0, .int .i64 4]) := by
    have := loadK_rd (P := Tryd.prog) (T := 40) (m := 3) (j := 6) (tyAgg_of Tryd.isAgg40) (tySize_of Tryd.sizeOf40) (by omega) (rdI_fa Mm gm (.ty 42)) (by omega)
    rw [fa_3] at this
    simpa [q0, q1, q2] using this
  refine GW_any follows ?_
  simp only [Array.toList, List.append_eq, List.cons_append, List.nil_append, List.length_cons, List.length_nil, Nat.reduceAdd]
  refine GA_gen (WkF cl cm Mm gl gm) ?_ ?_
  · refine ⟨by simp, by simp, by simp, by simp, by simp, by simp, by simp, by simp, by simp, by simp, by simp, by simp [msB], by simp [cfB], by simp, by simp, by simp, by simp, ?_⟩
    · intro k hk
      simp (disch := omega) only [upd_other, hpL_cons, hpL_nil, if_neg]
  intro ts0 hp0 hF
  refine GA_ind (fun listed ts hp => ∃ c g, TI wkN (wkV cl cm c) wkX (wkBk c g) ts0 hp0 listed ts hp) (fun listed ts hp hs hr hI => ?_) (fun fuel listed ts hp i hs hi hdep h hk => ?_) _ _ _ _ (by simp) (by decide +kernel) ?_
  · have hall := ready_nil hs (by kernel_rfl) hr
    have hall : ∀ i, i < 68 → listed[i]? = some true := fun i hi => hall i (by simpa using hi)
    obtain ⟨c, g, hI⟩ := hI
    have h0 : ts 0 = .bool true := hI.tm (67, 0) (by decide) (hall 67 (by omega))
    simp only [thenG_normal]
    refine GW_ret ?_
    refine ⟨.inr rfl, ?_⟩
    simp [Tryd.results8, h0]
  · have hlt : i < 68 := by
      have := (Array.getElem?_eq_some_iff.1 hi).1
      rw [hs] at this
      simpa using this
    obtain ⟨c, g, h⟩ := h
    obtain rfl | rfl | rfl | rfl | rfl | rfl | rfl | rfl | rfl | rfl | rfl | rfl | rfl | rfl | rfl | rfl | rfl | rfl | rfl | rfl | rfl | rfl | rfl | rfl | rfl | rfl | rfl | rfl | rfl | rfl | rfl | rfl | rfl | rfl | rfl | rfl | rfl | rfl | rfl | rfl | rfl | rfl | rfl | rfl | rfl | rfl | rfl | rfl | rfl | rfl | rfl | rfl | rfl | rfl | rfl | rfl | rfl | rfl | rfl | rfl | rfl | rfl | rfl | rfl | rfl | rfl | rfl | rfl : i = 0 ∨ i = 1 ∨ i = 2 ∨ i = 3 ∨ i = 4 ∨ i = 5 ∨ i = 6 ∨ i = 7 ∨ i = 8 ∨ i = 9 ∨ i = 10 ∨ i = 11 ∨ i = 12 ∨ i = 13 ∨ i = 14 ∨ i = 15 ∨ i = 16 ∨ i = 17 ∨ i = 18 ∨ i = 19 ∨ i = 20 ∨ i = 21 ∨ i = 22 ∨ i = 23 ∨ i = 24 ∨ i = 25 ∨ i = 26 ∨ i = 27 ∨ i = 28 ∨ i = 29 ∨ i = 30 ∨ i = 31 ∨ i = 32 ∨ i = 33 ∨ i = 34 ∨ i = 35 ∨ i = 36 ∨ i = 37 ∨ i = 38 ∨ i = 39 ∨ i = 40 ∨ i = 41 ∨ i = 42 ∨ i = 43 ∨ i = 44 ∨ i = 45 ∨ i = 46 ∨ i = 47 ∨ i = 48 ∨ i = 49 ∨ i = 50 ∨ i = 51 ∨ i = 52 ∨ i = 53 ∨ i = 54 ∨ i = 55 ∨ i = 56 ∨ i = 57 ∨ i = 58 ∨ i = 59 ∨ i = 60 ∨ i = 61 ∨ i = 62 ∨ i = 63 ∨ i = 64 ∨ i = 65 ∨ i = 66 ∨ i = 67 := by omega
    · -- 0
      have x2 : ts 2 = .slice (some ⟨248, 0, none⟩) 1 cl := (h.t0 2 (by decide)).trans hF.e2
      refine GO_walk [] rfl (by kernel_rfl) (by first | assumption | simp) ?_; intro q hq; simp [hC, hY, x2]; refine hq _ _ _ _ ?_; clear hq q
      exact hk _ _ ⟨c, g, h.tmp wkN1 wkN2 (i := 0) (t := 50) (by decide) rfl (by decide)⟩
    · -- 1
      have hd0 := hdep _ rfl
      simp [Region.binds] at hd0
      have d0 : listed[0]? = some true := by simp [hd0]
      have f0 : ts 50 = .slice (some ⟨248, 0, none⟩) 1 cl := h.tm (0, 50) (by decide) d0
      refine GO_walk [] rfl (by kernel_rfl) (by first | assumption | simp) ?_; intro q hq; simp [hC, hY, f0]; refine hq _ _ _ _ ?_; clear hq q
      exact hk _ _ ⟨c, g, h.tmp wkN1 wkN2 (i := 1) (t := 51) (by decide) rfl (by decide)⟩
    · -- 2
      have hd0 := hdep _ rfl
      simp [Region.binds] at hd0
      have d1 : listed[1]? = some true := by simp [hd0]
      have f1 : ts 51 = .pointer (some ⟨248, 0, none⟩) := h.tm (1, 51) (by decide) d1
      have y248 : hp 248 = some ⟨fa (3 * cl) .i64 gl, .ty 36⟩ := (h.h0 248 (by decide)).trans hF.b248
      refine GO_walk [] rfl (by kernel_rfl) (by first | assumption | simp) ?_; intro q hq; simp [hC, hY, f1, y248, hldl]; refine hq _ _ _ _ ?_; clear hq q
      exact hk _ _ ⟨c, g, h.tmp wkN1 wkN2 (i := 2) (t := 52) (by decide) rfl (by decide)⟩
    · -- 3
      refine GO_walk [] rfl (by kernel_rfl) (by first | assumption | simp) ?_; intro q hq; simp [hC, hY]; refine hq _ _ _ _ ?_; clear hq q
      exact hk _ _ ⟨c, g, h.tmp wkN1 wkN2 (i := 3) (t := 53) (by decide) rfl (by decide)⟩
    · -- 4
      have hd0 := hdep _ rfl
      simp [Region.binds] at hd0
      have d2 : listed[2]? = some true := by simp [hd0]
      have d3 : listed[3]? = some true := by simp [hd0]
      have f2 : ts 52 = .agg #[.int .i64 0, .int .i64 1, .int .i64 25] := h.tm (2, 52) (by decide) d2
      have f3 : ts 53 = .agg #[.int .i64 0, .int .i64 1, .int .i64 25] := h.tm (3, 53) (by decide) d3
      refine GO_walk [] rfl (by kernel_rfl) (by first | assumption | simp) ?_; intro q hq; simp [hC, hY, f2, f3]; refine hq _ _ _ _ ?_; clear hq q
      exact hk _ _ ⟨c, g, h.tmp wkN1 wkN2 (i := 4) (t := 54) (by decide) rfl (by decide)⟩
    · -- 5
      have hd0 := hdep _ rfl
      simp [Region.binds] at hd0
      have d4 : listed[4]? = some true := by simp [hd0]
      have f4 : ts 54 = .bool true := h.tm (4, 54) (by decide) d4
      refine GO_walk [] rfl (by kernel_rfl) (by first | assumption | simp) ?_; intro q hq; simp [hC, hY, f4]; refine hq _ _ _ _ ?_; clear hq q
      exact hk _ _ ⟨c, g, h.tmp wkN1 wkN2 (i := 5) (t := 55) (by decide) rfl (by decide)⟩
    · -- 6
      have hd0 := hdep _ rfl
      simp [Region.binds] at hd0
      have d5 : listed[5]? = some true := by simp [hd0]
      have f5 : ts 55 = .bool true := h.tm (5, 55) (by decide) d5
      have x3 : ts 3 = .int .i64 0 := (h.t0 3 (by decide)).trans hF.e3
      refine GO_walk [] rfl (by kernel_rfl) (by first | assumption | simp) ?_; intro q hq; simp [hC, hY, f5, x3]; refine hq _ _ _ _ ?_; clear hq q
      exact hk _ _ ⟨c, g, h.tmp wkN1 wkN2 (i := 6) (t := 56) (by decide) rfl (by decide)⟩
    · -- 7
      have hd0 := hdep _ rfl
      simp [Region.binds] at hd0
      have d5 : listed[5]? = some true := by simp [hd0]
      have d6 : listed[6]? = some true := by simp [hd0]
      have f5 : ts 55 = .bool true := h.tm (5, 55) (by decide) d5
      have f6 : ts 56 = .int .i64 0 := h.tm (6, 56) (by decide) d6
      refine GO_walk [] rfl (by kernel_rfl) (by first | assumption | simp) ?_; intro q hq; simp [hC, hY, f5, f6]; refine hq _ _ _ _ ?_; clear hq q
      exact hk _ _ ⟨c, g, h.tmp wkN1 wkN2 (i := 7) (t := 57) (by decide) rfl (by decide)⟩
    · -- 8
      have hd0 := hdep _ rfl
      simp [Region.binds] at hd0
      have d5 : listed[5]? = some true := by simp [hd0]
      have d7 : listed[7]? = some true := by simp [hd0]
      have f5 : ts 55 = .bool true := h.tm (5, 55) (by decide) d5
      have f7 : ts 57 = .bool true := h.tm (7, 57) (by decide) d7
      refine GO_walk [] rfl (by kernel_rfl) (by first | assumption | simp) ?_; intro q hq; simp [hC, hY, f5, f7]; refine hq _ _ _ _ ?_; clear hq q
      exact hk _ _ ⟨c, g, h.tmp wkN1 wkN2 (i := 8) (t := 58) (by decide) rfl (by decide)⟩
    · -- 9
      have hd0 := hdep _ rfl
      simp [Region.binds] at hd0
      have d8 : listed[8]? = some true := by simp [hd0]
      have f8 : ts 58 = .bool true := h.tm (8, 58) (by decide) d8
      refine GO_walk [] rfl (by kernel_rfl) (by first | assumption | simp) ?_; intro q hq; simp [hC, hY, f8]; refine hq _ _ _ _ ?_; clear hq q
      exact hk _ _ ⟨c, g, h.tmp wkN1 wkN2 (i := 9) (t := 59) (by decide) rfl (by decide)⟩
    · -- 10
      have hd0 := hdep _ rfl
      simp [Region.binds] at hd0
      have d9 : listed[9]? = some true := by simp [hd0]
      have f9 : ts 59 = .bool true := h.tm (9, 59) (by decide) d9
      have x1 : ts 1 = .pointer (some ⟨224, 0, none⟩) := (h.t0 1 (by decide)).trans hF.e1
      have y224 : hp 224 = some (cfB (.slice (some ⟨208, 0, none⟩) 2 2) 1 9 9 6 0) := (h.h0 224 (by decide)).trans hF.b224
      refine GO_walk [] rfl (by kernel_rfl) (by first | assumption | simp) ?_; intro q hq; simp [hC, hY, f9, x1, y224, cfB]; refine hq _ _ _ _ ?_; clear hq q
      exact hk _ _ ⟨c, g, h.tmp wkN1 wkN2 (i := 10) (t := 60) (by decide) rfl (by decide)⟩
    · -- 11
      have hd0 := hdep _ rfl
      simp [Region.binds] at hd0
      have d9 : listed[9]? = some true := by simp [hd0]
      have f9 : ts 59 = .bool true := h.tm (9, 59) (by decide) d9
      refine GO_walk [24] rfl (by kernel_rfl) (by first | assumption | simp) ?_; intro q hq; simp [hC, hY, f9]; (repeat ((first | (refine heapK_two (by omega) ?_)); try simp [hC, hY, f9])); refine hq _ _ _ _ ?_; clear hq q
      exact hk _ _ ⟨c, g, h.new wkN1 wkN2 wkX1 wkX2 (i := 11) (t := 61) (k := 720) (by decide) rfl (by decide) rfl⟩
    · -- 12
      have hd0 := hdep _ rfl
      simp [Region.binds] at hd0
      have d9 : listed[9]? = some true := by simp [hd0]
      have d10 : listed[10]? = some true := by simp [hd0]
      have d11 : listed[11]? = some true := by simp [hd0]
      have f9 : ts 59 = .bool true := h.tm (9, 59) (by decide) d9
      have f10 : ts 60 = .agg #[.slice (some ⟨208, 0, none⟩) 2 2, .int .i64 1, .int .i64 9, .int .i64 9, .int .i64 6, .int .i64 0] := h.tm (10, 60) (by decide) d10
      have f11 : ts 61 = .agg #[.int .i64 0, .slice (some ⟨720, 0, none⟩) 2 2] := h.tm (11, 61) (by decide) d11
      have y208 : hp 208 = some msB := (h.h0 208 (by decide)).trans hF.b208
      have z11 : hp 720 = some twoB := h.bx (11, 720) (by decide) d11
      have low : ∀ k, k < 100 → hp k = G0 k := fun k hk => (h.h0 k (wkX100 k hk)).trans (hF.low k hk)
      refine GO_walk [13] rfl (by kernel_rfl) (by first | assumption | simp) ?_; intro q hq; simp [hC, hY, f9, f10, f11, y208, z11]; (repeat ((first | (refine heapK_mv hck6 G0F (B := 200) (ncL_ok msMB.fx twoSB.fx) (fun k => if k = 100 then 208 else if k = 108 then 720 else k) (fun k hk => (if_neg (by omega)).trans (if_neg (by omega))) (by simp [cfV, ren, renA, renF, ren0]) (by simp) (by simp [ncL, hmr, htr, y208, z11]) (by simp [keys, ncL]) (by simp [keys, ncL]; rfl) ?_)); try simp [hC, hY, f9, f10, f11, y208, z11])); refine hq _ _ _ _ ?_; clear hq q
      exact hk _ _ ⟨c, g, h.tmp wkN1 wkN2 (i := 12) (t := 62) (by decide) rfl (by decide)⟩
    · -- 13
      have hd0 := hdep _ rfl
      simp [Region.binds] at hd0
      have d9 : listed[9]? = some true := by simp [hd0]
      have d12 : listed[12]? = some true := by simp [hd0]
      have f9 : ts 59 = .bool true := h.tm (9, 59) (by decide) d9
      have f12 : ts 62 = .int .i64 130 := h.tm (12, 62) (by decide) d12
      refine GO_walk [] rfl (by kernel_rfl) (by first | assumption | simp) ?_; intro q hq; simp [hC, hY, f9, f12]; refine hq _ _ _ _ ?_; clear hq q
      exact hk _ _ ⟨c, g, h.tmp wkN1 wkN2 (i := 13) (t := 63) (by decide) rfl (by decide)⟩
    · -- 14
      have hd0 := hdep _ rfl
      simp [Region.binds] at hd0
      have d9 : listed[9]? = some true := by simp [hd0]
      have d13 : listed[13]? = some true := by simp [hd0]
      have f9 : ts 59 = .bool true := h.tm (9, 59) (by decide) d9
      have f13 : ts 63 = .bool true := h.tm (13, 63) (by decide) d13
      refine GO_walk [] rfl (by kernel_rfl) (by first | assumption | simp) ?_; intro q hq; simp [hC, hY, f9, f13]; refine hq _ _ _ _ ?_; clear hq q
      exact hk _ _ ⟨c, g, h.tmp wkN1 wkN2 (i := 14) (t := 64) (by decide) rfl (by decide)⟩
    · -- 15
      have hd0 := hdep _ rfl
      simp [Region.binds] at hd0
      have d14 : listed[14]? = some true := by simp [hd0]
      have f14 : ts 64 = .bool true := h.tm (14, 64) (by decide) d14
      refine GO_walk [] rfl (by kernel_rfl) (by first | assumption | simp) ?_; intro q hq; simp [hC, hY, f14]; refine hq _ _ _ _ ?_; clear hq q
      exact hk _ _ ⟨c, g, h.tmp wkN1 wkN2 (i := 15) (t := 65) (by decide) rfl (by decide)⟩
    · -- 16
      have hd0 := hdep _ rfl
      simp [Region.binds] at hd0
      have d15 : listed[15]? = some true := by simp [hd0]
      have f15 : ts 65 = .bool true := h.tm (15, 65) (by decide) d15
      have x1 : ts 1 = .pointer (some ⟨224, 0, none⟩) := (h.t0 1 (by decide)).trans hF.e1
      have y224 : hp 224 = some (cfB (.slice (some ⟨208, 0, none⟩) 2 2) 1 9 9 6 0) := (h.h0 224 (by decide)).trans hF.b224
      refine GO_walk [] rfl (by kernel_rfl) (by first | assumption | simp) ?_; intro q hq; simp [hC, hY, f15, x1, y224, cfB]; refine hq _ _ _ _ ?_; clear hq q
      exact hk _ _ ⟨c, g, h.tmp wkN1 wkN2 (i := 16) (t := 66) (by decide) rfl (by decide)⟩
    · -- 17
      have hd0 := hdep _ rfl
      simp [Region.binds] at hd0
      have d15 : listed[15]? = some true := by simp [hd0]
      have f15 : ts 65 = .bool true := h.tm (15, 65) (by decide) d15
      refine GO_walk [24] rfl (by kernel_rfl) (by first | assumption | simp) ?_; intro q hq; simp [hC, hY, f15]; (repeat ((first | (refine heapK_two (by omega) ?_)); try simp [hC, hY, f15])); refine hq _ _ _ _ ?_; clear hq q
      exact hk _ _ ⟨c, g, h.new wkN1 wkN2 wkX1 wkX2 (i := 17) (t := 67) (k := 768) (by decide) rfl (by decide) rfl⟩
    · -- 18
      have hd0 := hdep _ rfl
      simp [Region.binds] at hd0
      have d15 : listed[15]? = some true := by simp [hd0]
      have d16 : listed[16]? = some true := by simp [hd0]
      have d17 : listed[17]? = some true := by simp [hd0]
      have f15 : ts 65 = .bool true := h.tm (15, 65) (by decide) d15
      have f16 : ts 66 = .agg #[.slice (some ⟨208, 0, none⟩) 2 2, .int .i64 1, .int .i64 9, .int .i64 9, .int .i64 6, .int .i64 0] := h.tm (16, 66) (by decide) d16
      have f17 : ts 67 = .agg #[.int .i64 0, .slice (some ⟨768, 0, none⟩) 2 2] := h.tm (17, 67) (by decide) d17
      have y208 : hp 208 = some msB := (h.h0 208 (by decide)).trans hF.b208
      have z17 : hp 768 = some twoB := h.bx (17, 768) (by decide) d17
      have low : ∀ k, k < 100 → hp k = G0 k := fun k hk => (h.h0 k (wkX100 k hk)).trans (hF.low k hk)
      refine GO_callG (f := .func 10) (cap := #[]) hC hnr rfl hi (by simp [wantedG, f15]) (by simp [Tryd.ntmps8]) rfl rfl (by simp [okT]) (by simp [gev]) (by simp) (by simp [okX, junk, f15, f16, f17, y208, z17]) (by simp [gev, cfV, f15, f16, f17, y208, z17]) (by simp [y208, z17]) (fun q hq => (low q hq).symm ▸ (by simp (disch := omega) only [hpL_cons, hpL_nil, if_neg])) ?_ ?_
      · intro v ns hV k hk
        rw [prR_key hV k hk]
        omega
      rintro v ns (⟨h9, _⟩ | ⟨c', g', _, c1, c2, rfl, rfl⟩)
      · simp at h9
      have hc' : ∀ p ∈ wkN, listed[p.1]? = some true → wkV cl cm c p.1 = wkV cl cm c' p.1 := fun p hp hl => by
        have : p.1 ≠ 18 := fun e => by rw [e, hi] at hl; cases hl
        generalize p.1 = i0 at this ⊢
        unfold wkV
        split <;> first | rfl | exact absurd rfl this
      have hb' : ∀ p ∈ wkX, listed[p.1]? = some true → wkBk c g p.1 = wkBk c' g' p.1 := fun p hp hl => by
        have : p.1 ≠ 18 := fun e => by rw [e, hi] at hl; cases hl
        generalize p.1 = i0 at this ⊢
        unfold wkBk
        split <;> first | rfl | exact absurd rfl this
      exact hk _ _ ⟨c', g', (h.chg hc' hb').new wkN1 wkN2 wkX1 wkX2 (i := 18) (t := 68) (k := 776) (by decide) rfl (by decide) rfl⟩
    · -- 19
      have hd0 := hdep _ rfl
      simp [Region.binds] at hd0
      have d15 : listed[15]? = some true := by simp [hd0]
      have d18 : listed[18]? = some true := by simp [hd0]
      have f15 : ts 65 = .bool true := h.tm (15, 65) (by decide) d15
      have f18 : ts 68 = .slice (some ⟨776, 0, none⟩) 1 c := h.tm (18, 68) (by decide) d18
      refine GO_walk [] rfl (by kernel_rfl) (by first | assumption | simp) ?_; intro q hq; simp [hC, hY, f15, f18]; refine hq _ _ _ _ ?_; clear hq q
      exact hk _ _ ⟨c, g, h.tmp wkN1 wkN2 (i := 19) (t := 69) (by decide) rfl (by decide)⟩
    · -- 20
      have hd0 := hdep _ rfl
      simp [Region.binds] at hd0
      have d15 : listed[15]? = some true := by simp [hd0]
      have d19 : listed[19]? = some true := by simp [hd0]
      have f15 : ts 65 = .bool true := h.tm (15, 65) (by decide) d15
      have f19 : ts 69 = .int .i64 1 := h.tm (19, 69) (by decide) d19
      refine GO_walk [] rfl (by kernel_rfl) (by first | assumption | simp) ?_; intro q hq; simp [hC, hY, f15, f19]; refine hq _ _ _ _ ?_; clear hq q
      exact hk _ _ ⟨c, g, h.tmp wkN1 wkN2 (i := 20) (t := 70) (by decide) rfl (by decide)⟩
    · -- 21
      have hd0 := hdep _ rfl
      simp [Region.binds] at hd0
      have d15 : listed[15]? = some true := by simp [hd0]
      have d20 : listed[20]? = some true := by simp [hd0]
      have f15 : ts 65 = .bool true := h.tm (15, 65) (by decide) d15
      have f20 : ts 70 = .bool true := h.tm (20, 70) (by decide) d20
      refine GO_walk [] rfl (by kernel_rfl) (by first | assumption | simp) ?_; intro q hq; simp [hC, hY, f15, f20]; refine hq _ _ _ _ ?_; clear hq q
      exact hk _ _ ⟨c, g, h.tmp wkN1 wkN2 (i := 21) (t := 71) (by decide) rfl (by decide)⟩
    · -- 22
      have hd0 := hdep _ rfl
      simp [Region.binds] at hd0
      have d21 : listed[21]? = some true := by simp [hd0]
      have f21 : ts 71 = .bool true := h.tm (21, 71) (by decide) d21
      refine GO_walk [] rfl (by kernel_rfl) (by first | assumption | simp) ?_; intro q hq; simp [hC, hY, f21]; refine hq _ _ _ _ ?_; clear hq q
      exact hk _ _ ⟨c, g, h.tmp wkN1 wkN2 (i := 22) (t := 72) (by decide) rfl (by decide)⟩
    · -- 23
      have hd0 := hdep _ rfl
      simp [Region.binds] at hd0
      have d22 : listed[22]? = some true := by simp [hd0]
      have f22 : ts 72 = .bool true := h.tm (22, 72) (by decide) d22
      have x4 : ts 4 = .pointer (some ⟨352, 0, none⟩) := (h.t0 4 (by decide)).trans hF.e4
      have y352 : hp 352 = some ⟨#[.int .i64 0, .int .i64 1, .int .i64 25], .ty 36⟩ := (h.h0 352 (by decide)).trans hF.b352
      refine GO_walk [] rfl (by kernel_rfl) (by first | assumption | simp) ?_; intro q hq; simp [hC, hY, f22, x4, y352]; refine hq _ _ _ _ ?_; clear hq q
      exact hk _ _ ⟨c, g, h.tmp wkN1 wkN2 (i := 23) (t := 73) (by decide) rfl (by decide)⟩
    · -- 24
      have hd0 := hdep _ rfl
      simp [Region.binds] at hd0
      have d22 : listed[22]? = some true := by simp [hd0]
      have f22 : ts 72 = .bool true := h.tm (22, 72) (by decide) d22
      have x2 : ts 2 = .slice (some ⟨248, 0, none⟩) 1 cl := (h.t0 2 (by decide)).trans hF.e2
      refine GO_walk [] rfl (by kernel_rfl) (by first | assumption | simp) ?_; intro q hq; simp [hC, hY, f22, x2]; refine hq _ _ _ _ ?_; clear hq q
      exact hk _ _ ⟨c, g, h.tmp wkN1 wkN2 (i := 24) (t := 74) (by decide) rfl (by decide)⟩
    · -- 25
      have hd0 := hdep _ rfl
      simp [Region.binds] at hd0
      have d22 : listed[22]? = some true := by simp [hd0]
      have d24 : listed[24]? = some true := by simp [hd0]
      have f22 : ts 72 = .bool true := h.tm (22, 72) (by decide) d22
      have f24 : ts 74 = .slice (some ⟨248, 0, none⟩) 1 cl := h.tm (24, 74) (by decide) d24
      refine GO_walk [] rfl (by kernel_rfl) (by first | assumption | simp) ?_; intro q hq; simp [hC, hY, f22, f24]; refine hq _ _ _ _ ?_; clear hq q
      exact hk _ _ ⟨c, g, h.tmp wkN1 wkN2 (i := 25) (t := 75) (by decide) rfl (by decide)⟩
    · -- 26
      have hd0 := hdep _ rfl
      simp [Region.binds] at hd0
      have d22 : listed[22]? = some true := by simp [hd0]
      have d25 : listed[25]? = some true := by simp [hd0]
      have f22 : ts 72 = .bool true := h.tm (22, 72) (by decide) d22
      have f25 : ts 75 = .pointer (some ⟨248, 0, none⟩) := h.tm (25, 75) (by decide) d25
      have y248 : hp 248 = some ⟨fa (3 * cl) .i64 gl, .ty 36⟩ := (h.h0 248 (by decide)).trans hF.b248
      refine GO_walk [] rfl (by kernel_rfl) (by first | assumption | simp) ?_; intro q hq; simp [hC, hY, f22, f25, y248, hldl]; refine hq _ _ _ _ ?_; clear hq q
      exact hk _ _ ⟨c, g, h.tmp wkN1 wkN2 (i := 26) (t := 76) (by decide) rfl (by decide)⟩
    · -- 27
      have hd0 := hdep _ rfl
      simp [Region.binds] at hd0
      have d22 : listed[22]? = some true := by simp [hd0]
      have d23 : listed[23]? = some true := by simp [hd0]
      have d26 : listed[26]? = some true := by simp [hd0]
      have f22 : ts 72 = .bool true := h.tm (22, 72) (by decide) d22
      have f23 : ts 73 = .agg #[.int .i64 0, .int .i64 1, .int .i64 25] := h.tm (23, 73) (by decide) d23
      have f26 : ts 76 = .agg #[.int .i64 0, .int .i64 1, .int .i64 25] := h.tm (26, 76) (by decide) d26
      refine GO_walk [] rfl (by kernel_rfl) (by first | assumption | simp) ?_; intro q hq; simp [hC, hY, f22, f23, f26]; refine hq _ _ _ _ ?_; clear hq q
      exact hk _ _ ⟨c, g, h.tmp wkN1 wkN2 (i := 27) (t := 77) (by decide) rfl (by decide)⟩
    · -- 28
      have hd0 := hdep _ rfl
      simp [Region.binds] at hd0
      have d22 : listed[22]? = some true := by simp [hd0]
      have d27 : listed[27]? = some true := by simp [hd0]
      have f22 : ts 72 = .bool true := h.tm (22, 72) (by decide) d22
      have f27 : ts 77 = .bool true := h.tm (27, 77) (by decide) d27
      refine GO_walk [] rfl (by kernel_rfl) (by first | assumption | simp) ?_; intro q hq; simp [hC, hY, f22, f27]; refine hq _ _ _ _ ?_; clear hq q
      exact hk _ _ ⟨c, g, h.tmp wkN1 wkN2 (i := 28) (t := 78) (by decide) rfl (by decide)⟩
    · -- 29
      have hd0 := hdep _ rfl
      simp [Region.binds] at hd0
      have d28 : listed[28]? = some true := by simp [hd0]
      have f28 : ts 78 = .bool true := h.tm (28, 78) (by decide) d28
      refine GO_walk [] rfl (by kernel_rfl) (by first | assumption | simp) ?_; intro q hq; simp [hC, hY, f28]; refine hq _ _ _ _ ?_; clear hq q
      exact hk _ _ ⟨c, g, h.tmp wkN1 wkN2 (i := 29) (t := 79) (by decide) rfl (by decide)⟩
    · -- 30
      have hd0 := hdep _ rfl
      simp [Region.binds] at hd0
      have d29 : listed[29]? = some true := by simp [hd0]
      have f29 : ts 79 = .bool true := h.tm (29, 79) (by decide) d29
      have x5 : ts 5 = .bool true := (h.t0 5 (by decide)).trans hF.e5
      refine GO_walk [] rfl (by kernel_rfl) (by first | assumption | simp) ?_; intro q hq; simp [hC, hY, f29, x5]; refine hq _ _ _ _ ?_; clear hq q
      exact hk _ _ ⟨c, g, h.tmp wkN1 wkN2 (i := 30) (t := 80) (by decide) rfl (by decide)⟩
    · -- 31
      have hd0 := hdep _ rfl
      simp [Region.binds] at hd0
      have d29 : listed[29]? = some true := by simp [hd0]
      have d30 : listed[30]? = some true := by simp [hd0]
      have f29 : ts 79 = .bool true := h.tm (29, 79) (by decide) d29
      have f30 : ts 80 = .bool true := h.tm (30, 80) (by decide) d30
      refine GO_walk [] rfl (by kernel_rfl) (by first | assumption | simp) ?_; intro q hq; simp [hC, hY, f29, f30]; refine hq _ _ _ _ ?_; clear hq q
      exact hk _ _ ⟨c, g, h.tmp wkN1 wkN2 (i := 31) (t := 81) (by decide) rfl (by decide)⟩
    · -- 32
      have hd0 := hdep _ rfl
      simp [Region.binds] at hd0
      have d31 : listed[31]? = some true := by simp [hd0]
      have f31 : ts 81 = .bool true := h.tm (31, 81) (by decide) d31
      refine GO_walk [] rfl (by kernel_rfl) (by first | assumption | simp) ?_; intro q hq; simp [hC, hY, f31]; refine hq _ _ _ _ ?_; clear hq q
      exact hk _ _ ⟨c, g, h.tmp wkN1 wkN2 (i := 32) (t := 82) (by decide) rfl (by decide)⟩
    · -- 33
      have hd0 := hdep _ rfl
      simp [Region.binds] at hd0
      have d32 : listed[32]? = some true := by simp [hd0]
      have f32 : ts 82 = .bool true := h.tm (32, 82) (by decide) d32
      have x6 : ts 6 = .int .i64 5 := (h.t0 6 (by decide)).trans hF.e6
      refine GO_walk [] rfl (by kernel_rfl) (by first | assumption | simp) ?_; intro q hq; simp [hC, hY, f32, x6]; refine hq _ _ _ _ ?_; clear hq q
      exact hk _ _ ⟨c, g, h.tmp wkN1 wkN2 (i := 33) (t := 83) (by decide) rfl (by decide)⟩
    · -- 34
      have hd0 := hdep _ rfl
      simp [Region.binds] at hd0
      have d32 : listed[32]? = some true := by simp [hd0]
      have d33 : listed[33]? = some true := by simp [hd0]
      have f32 : ts 82 = .bool true := h.tm (32, 82) (by decide) d32
      have f33 : ts 83 = .int .i64 5 := h.tm (33, 83) (by decide) d33
      refine GO_walk [] rfl (by kernel_rfl) (by first | assumption | simp) ?_; intro q hq; simp [hC, hY, f32, f33]; refine hq _ _ _ _ ?_; clear hq q
      exact hk _ _ ⟨c, g, h.tmp wkN1 wkN2 (i := 34) (t := 84) (by decide) rfl (by decide)⟩
    · -- 35
      have hd0 := hdep _ rfl
      simp [Region.binds] at hd0
      have d32 : listed[32]? = some true := by simp [hd0]
      have d34 : listed[34]? = some true := by simp [hd0]
      have f32 : ts 82 = .bool true := h.tm (32, 82) (by decide) d32
      have f34 : ts 84 = .bool true := h.tm (34, 84) (by decide) d34
      refine GO_walk [] rfl (by kernel_rfl) (by first | assumption | simp) ?_; intro q hq; simp [hC, hY, f32, f34]; refine hq _ _ _ _ ?_; clear hq q
      exact hk _ _ ⟨c, g, h.tmp wkN1 wkN2 (i := 35) (t := 85) (by decide) rfl (by decide)⟩
    · -- 36
      have hd0 := hdep _ rfl
      simp [Region.binds] at hd0
      have d35 : listed[35]? = some true := by simp [hd0]
      have f35 : ts 85 = .bool true := h.tm (35, 85) (by decide) d35
      refine GO_walk [] rfl (by kernel_rfl) (by first | assumption | simp) ?_; intro q hq; simp [hC, hY, f35]; refine hq _ _ _ _ ?_; clear hq q
      exact hk _ _ ⟨c, g, h.tmp wkN1 wkN2 (i := 36) (t := 86) (by decide) rfl (by decide)⟩
    · -- 37
      have hd0 := hdep _ rfl
      simp [Region.binds] at hd0
      have d36 : listed[36]? = some true := by simp [hd0]
      have f36 : ts 86 = .bool true := h.tm (36, 86) (by decide) d36
      have x7 : ts 7 = .int .i64 5 := (h.t0 7 (by decide)).trans hF.e7
      refine GO_walk [] rfl (by kernel_rfl) (by first | assumption | simp) ?_; intro q hq; simp [hC, hY, f36, x7]; refine hq _ _ _ _ ?_; clear hq q
      exact hk _ _ ⟨c, g, h.tmp wkN1 wkN2 (i := 37) (t := 87) (by decide) rfl (by decide)⟩
    · -- 38
      have hd0 := hdep _ rfl
      simp [Region.binds] at hd0
      have d36 : listed[36]? = some true := by simp [hd0]
      have d37 : listed[37]? = some true := by simp [hd0]
      have f36 : ts 86 = .bool true := h.tm (36, 86) (by decide) d36
      have f37 : ts 87 = .int .i64 5 := h.tm (37, 87) (by decide) d37
      refine GO_walk [] rfl (by kernel_rfl) (by first | assumption | simp) ?_; intro q hq; simp [hC, hY, f36, f37]; refine hq _ _ _ _ ?_; clear hq q
      exact hk _ _ ⟨c, g, h.tmp wkN1 wkN2 (i := 38) (t := 88) (by decide) rfl (by decide)⟩
    · -- 39
      have hd0 := hdep _ rfl
      simp [Region.binds] at hd0
      have d36 : listed[36]? = some true := by simp [hd0]
      have d38 : listed[38]? = some true := by simp [hd0]
      have f36 : ts 86 = .bool true := h.tm (36, 86) (by decide) d36
      have f38 : ts 88 = .bool true := h.tm (38, 88) (by decide) d38
      refine GO_walk [] rfl (by kernel_rfl) (by first | assumption | simp) ?_; intro q hq; simp [hC, hY, f36, f38]; refine hq _ _ _ _ ?_; clear hq q
      exact hk _ _ ⟨c, g, h.tmp wkN1 wkN2 (i := 39) (t := 89) (by decide) rfl (by decide)⟩
    · -- 40
      have hd0 := hdep _ rfl
      simp [Region.binds] at hd0
      have d39 : listed[39]? = some true := by simp [hd0]
      have f39 : ts 89 = .bool true := h.tm (39, 89) (by decide) d39
      refine GO_walk [] rfl (by kernel_rfl) (by first | assumption | simp) ?_; intro q hq; simp [hC, hY, f39]; refine hq _ _ _ _ ?_; clear hq q
      exact hk _ _ ⟨c, g, h.tmp wkN1 wkN2 (i := 40) (t := 90) (by decide) rfl (by decide)⟩
    · -- 41
      have hd0 := hdep _ rfl
      simp [Region.binds] at hd0
      have d40 : listed[40]? = some true := by simp [hd0]
      have f40 : ts 90 = .bool true := h.tm (40, 90) (by decide) d40
      have x8 : ts 8 = .int .i64 5 := (h.t0 8 (by decide)).trans hF.e8
      refine GO_walk [] rfl (by kernel_rfl) (by first | assumption | simp) ?_; intro q hq; simp [hC, hY, f40, x8]; refine hq _ _ _ _ ?_; clear hq q
      exact hk _ _ ⟨c, g, h.tmp wkN1 wkN2 (i := 41) (t := 91) (by decide) rfl (by decide)⟩
    · -- 42
      have hd0 := hdep _ rfl
      simp [Region.binds] at hd0
      have d40 : listed[40]? = some true := by simp [hd0]
      have d41 : listed[41]? = some true := by simp [hd0]
      have f40 : ts 90 = .bool true := h.tm (40, 90) (by decide) d40
      have f41 : ts 91 = .int .i64 5 := h.tm (41, 91) (by decide) d41
      refine GO_walk [] rfl (by kernel_rfl) (by first | assumption | simp) ?_; intro q hq; simp [hC, hY, f40, f41]; refine hq _ _ _ _ ?_; clear hq q
      exact hk _ _ ⟨c, g, h.tmp wkN1 wkN2 (i := 42) (t := 92) (by decide) rfl (by decide)⟩
    · -- 43
      have hd0 := hdep _ rfl
      simp [Region.binds] at hd0
      have d40 : listed[40]? = some true := by simp [hd0]
      have d42 : listed[42]? = some true := by simp [hd0]
      have f40 : ts 90 = .bool true := h.tm (40, 90) (by decide) d40
      have f42 : ts 92 = .bool true := h.tm (42, 92) (by decide) d42
      refine GO_walk [] rfl (by kernel_rfl) (by first | assumption | simp) ?_; intro q hq; simp [hC, hY, f40, f42]; refine hq _ _ _ _ ?_; clear hq q
      exact hk _ _ ⟨c, g, h.tmp wkN1 wkN2 (i := 43) (t := 93) (by decide) rfl (by decide)⟩
    · -- 44
      have hd0 := hdep _ rfl
      simp [Region.binds] at hd0
      have d43 : listed[43]? = some true := by simp [hd0]
      have f43 : ts 93 = .bool true := h.tm (43, 93) (by decide) d43
      refine GO_walk [] rfl (by kernel_rfl) (by first | assumption | simp) ?_; intro q hq; simp [hC, hY, f43]; refine hq _ _ _ _ ?_; clear hq q
      exact hk _ _ ⟨c, g, h.tmp wkN1 wkN2 (i := 44) (t := 94) (by decide) rfl (by decide)⟩
    · -- 45
      have hd0 := hdep _ rfl
      simp [Region.binds] at hd0
      have d44 : listed[44]? = some true := by simp [hd0]
      have f44 : ts 94 = .bool true := h.tm (44, 94) (by decide) d44
      have x9 : ts 9 = .int .i64 6 := (h.t0 9 (by decide)).trans hF.e9
      refine GO_walk [] rfl (by kernel_rfl) (by first | assumption | simp) ?_; intro q hq; simp [hC, hY, f44, x9]; refine hq _ _ _ _ ?_; clear hq q
      exact hk _ _ ⟨c, g, h.tmp wkN1 wkN2 (i := 45) (t := 95) (by decide) rfl (by decide)⟩
    · -- 46
      have hd0 := hdep _ rfl
      simp [Region.binds] at hd0
      have d44 : listed[44]? = some true := by simp [hd0]
      have d45 : listed[45]? = some true := by simp [hd0]
      have f44 : ts 94 = .bool true := h.tm (44, 94) (by decide) d44
      have f45 : ts 95 = .int .i64 6 := h.tm (45, 95) (by decide) d45
      refine GO_walk [] rfl (by kernel_rfl) (by first | assumption | simp) ?_; intro q hq; simp [hC, hY, f44, f45]; refine hq _ _ _ _ ?_; clear hq q
      exact hk _ _ ⟨c, g, h.tmp wkN1 wkN2 (i := 46) (t := 96) (by decide) rfl (by decide)⟩
    · -- 47
      have hd0 := hdep _ rfl
      simp [Region.binds] at hd0
      have d44 : listed[44]? = some true := by simp [hd0]
      have d46 : listed[46]? = some true := by simp [hd0]
      have f44 : ts 94 = .bool true := h.tm (44, 94) (by decide) d44
      have f46 : ts 96 = .bool true := h.tm (46, 96) (by decide) d46
      refine GO_walk [] rfl (by kernel_rfl) (by first | assumption | simp) ?_; intro q hq; simp [hC, hY, f44, f46]; refine hq _ _ _ _ ?_; clear hq q
      exact hk _ _ ⟨c, g, h.tmp wkN1 wkN2 (i := 47) (t := 97) (by decide) rfl (by decide)⟩
    · -- 48
      have hd0 := hdep _ rfl
      simp [Region.binds] at hd0
      have d47 : listed[47]? = some true := by simp [hd0]
      have f47 : ts 97 = .bool true := h.tm (47, 97) (by decide) d47
      refine GO_walk [] rfl (by kernel_rfl) (by first | assumption | simp) ?_; intro q hq; simp [hC, hY, f47]; refine hq _ _ _ _ ?_; clear hq q
      exact hk _ _ ⟨c, g, h.tmp wkN1 wkN2 (i := 48) (t := 98) (by decide) rfl (by decide)⟩
    · -- 49
      have hd0 := hdep _ rfl
      simp [Region.binds] at hd0
      have d48 : listed[48]? = some true := by simp [hd0]
      have f48 : ts 98 = .bool true := h.tm (48, 98) (by decide) d48
      have x11 : ts 11 = .int .i64 0 := (h.t0 11 (by decide)).trans hF.e11
      refine GO_walk [] rfl (by kernel_rfl) (by first | assumption | simp) ?_; intro q hq; simp [hC, hY, f48, x11]; refine hq _ _ _ _ ?_; clear hq q
      exact hk _ _ ⟨c, g, h.tmp wkN1 wkN2 (i := 49) (t := 99) (by decide) rfl (by decide)⟩
    · -- 50
      have hd0 := hdep _ rfl
      simp [Region.binds] at hd0
      have d48 : listed[48]? = some true := by simp [hd0]
      have d49 : listed[49]? = some true := by simp [hd0]
      have f48 : ts 98 = .bool true := h.tm (48, 98) (by decide) d48
      have f49 : ts 99 = .int .i64 0 := h.tm (49, 99) (by decide) d49
      refine GO_walk [] rfl (by kernel_rfl) (by first | assumption | simp) ?_; intro q hq; simp [hC, hY, f48, f49]; refine hq _ _ _ _ ?_; clear hq q
      exact hk _ _ ⟨c, g, h.tmp wkN1 wkN2 (i := 50) (t := 100) (by decide) rfl (by decide)⟩
    · -- 51
      have hd0 := hdep _ rfl
      simp [Region.binds] at hd0
      have d48 : listed[48]? = some true := by simp [hd0]
      have d50 : listed[50]? = some true := by simp [hd0]
      have f48 : ts 98 = .bool true := h.tm (48, 98) (by decide) d48
      have f50 : ts 100 = .bool true := h.tm (50, 100) (by decide) d50
      refine GO_walk [] rfl (by kernel_rfl) (by first | assumption | simp) ?_; intro q hq; simp [hC, hY, f48, f50]; refine hq _ _ _ _ ?_; clear hq q
      exact hk _ _ ⟨c, g, h.tmp wkN1 wkN2 (i := 51) (t := 101) (by decide) rfl (by decide)⟩
    · -- 52
      have hd0 := hdep _ rfl
      simp [Region.binds] at hd0
      have d51 : listed[51]? = some true := by simp [hd0]
      have f51 : ts 101 = .bool true := h.tm (51, 101) (by decide) d51
      refine GO_walk [] rfl (by kernel_rfl) (by first | assumption | simp) ?_; intro q hq; simp [hC, hY, f51]; refine hq _ _ _ _ ?_; clear hq q
      exact hk _ _ ⟨c, g, h.tmp wkN1 wkN2 (i := 52) (t := 102) (by decide) rfl (by decide)⟩
    · -- 53
      have hd0 := hdep _ rfl
      simp [Region.binds] at hd0
      have d52 : listed[52]? = some true := by simp [hd0]
      have f52 : ts 102 = .bool true := h.tm (52, 102) (by decide) d52
      have x10 : ts 10 = .pointer (some ⟨536, 0, none⟩) := (h.t0 10 (by decide)).trans hF.e10
      refine GO_walk [] rfl (by kernel_rfl) (by first | assumption | simp) ?_; intro q hq; simp [hC, hY, f52, x10]; refine hq _ _ _ _ ?_; clear hq q
      exact hk _ _ ⟨c, g, h.tmp wkN1 wkN2 (i := 53) (t := 103) (by decide) rfl (by decide)⟩
    · -- 54
      have hd0 := hdep _ rfl
      simp [Region.binds] at hd0
      have d52 : listed[52]? = some true := by simp [hd0]
      have d53 : listed[53]? = some true := by simp [hd0]
      have f52 : ts 102 = .bool true := h.tm (52, 102) (by decide) d52
      have f53 : ts 103 = .pointer (some ⟨536, 1, none⟩) := h.tm (53, 103) (by decide) d53
      have y536 : hp 536 = some ⟨#[.int .i64 0, .slice (some ⟨504, 0, none⟩) 2 cm], .ty 27⟩ := (h.h0 536 (by decide)).trans hF.b536
      refine GO_walk [] rfl (by kernel_rfl) (by first | assumption | simp) ?_; intro q hq; simp [hC, hY, f52, f53, y536]; refine hq _ _ _ _ ?_; clear hq q
      exact hk _ _ ⟨c, g, h.tmp wkN1 wkN2 (i := 54) (t := 104) (by decide) rfl (by decide)⟩
    · -- 55
      have hd0 := hdep _ rfl
      simp [Region.binds] at hd0
      have d52 : listed[52]? = some true := by simp [hd0]
      have d54 : listed[54]? = some true := by simp [hd0]
      have f52 : ts 102 = .bool true := h.tm (52, 102) (by decide) d52
      have f54 : ts 104 = .slice (some ⟨504, 0, none⟩) 2 cm := h.tm (54, 104) (by decide) d54
      refine GO_walk [] rfl (by kernel_rfl) (by first | assumption | simp) ?_; intro q hq; simp [hC, hY, f52, f54]; refine hq _ _ _ _ ?_; clear hq q
      exact hk _ _ ⟨c, g, h.tmp wkN1 wkN2 (i := 55) (t := 105) (by decide) rfl (by decide)⟩
    · -- 56
      have hd0 := hdep _ rfl
      simp [Region.binds] at hd0
      have d52 : listed[52]? = some true := by simp [hd0]
      have d55 : listed[55]? = some true := by simp [hd0]
      have f52 : ts 102 = .bool true := h.tm (52, 102) (by decide) d52
      have f55 : ts 105 = .pointer (some ⟨504, 6, none⟩) := h.tm (55, 105) (by decide) d55
      refine GO_walk [] rfl (by kernel_rfl) (by first | assumption | simp) ?_; intro q hq; simp [hC, hY, f52, f55]; refine hq _ _ _ _ ?_; clear hq q
      exact hk _ _ ⟨c, g, h.tmp wkN1 wkN2 (i := 56) (t := 106) (by decide) rfl (by decide)⟩
    · -- 57
      have hd0 := hdep _ rfl
      simp [Region.binds] at hd0
      have d52 : listed[52]? = some true := by simp [hd0]
      have d56 : listed[56]? = some true := by simp [hd0]
      have f52 : ts 102 = .bool true := h.tm (52, 102) (by decide) d52
      have f56 : ts 106 = .pointer (some ⟨504, 6, none⟩) := h.tm (56, 106) (by decide) d56
      have y504 : hp 504 = some ⟨fa Mm .i64 gm, .ty 42⟩ := (h.h0 504 (by decide)).trans hF.b504
      refine GO_walk [] rfl (by kernel_rfl) (by first | assumption | simp) ?_; intro q hq; simp [hC, hY, f52, f56, y504, hldv]; refine hq _ _ _ _ ?_; clear hq q
      exact hk _ _ ⟨c, g, h.tmp wkN1 wkN2 (i := 57) (t := 107) (by decide) rfl (by decide)⟩
    · -- 58
      have hd0 := hdep _ rfl
      simp [Region.binds] at hd0
      have d52 : listed[52]? = some true := by simp [hd0]
      have f52 : ts 102 = .bool true := h.tm (52, 102) (by decide) d52
      refine GO_walk [] rfl (by kernel_rfl) (by first | assumption | simp) ?_; intro q hq; simp [hC, hY, f52]; refine hq _ _ _ _ ?_; clear hq q
      exact hk _ _ ⟨c, g, h.tmp wkN1 wkN2 (i := 58) (t := 108) (by decide) rfl (by decide)⟩
    · -- 59
      have hd0 := hdep _ rfl
      simp [Region.binds] at hd0
      have d52 : listed[52]? = some true := by simp [hd0]
      have d57 : listed[57]? = some true := by simp [hd0]
      have d58 : listed[58]? = some true := by simp [hd0]
      have f52 : ts 102 = .bool true := h.tm (52, 102) (by decide) d52
      have f57 : ts 107 = .agg #[.int .i64 4, .int .i64 0, .int .i64 4] := h.tm (57, 107) (by decide) d57
      have f58 : ts 108 = .agg #[.int .i64 4, .int .i64 0, .int .i64 4] := h.tm (58, 108) (by decide) d58
      refine GO_walk [] rfl (by kernel_rfl) (by first | assumption | simp) ?_; intro q hq; simp [hC, hY, f52, f57, f58]; refine hq _ _ _ _ ?_; clear hq q
      exact hk _ _ ⟨c, g, h.tmp wkN1 wkN2 (i := 59) (t := 109) (by decide) rfl (by decide)⟩
    · -- 60
      have hd0 := hdep _ rfl
      simp [Region.binds] at hd0
      have d52 : listed[52]? = some true := by simp [hd0]
      have d59 : listed[59]? = some true := by simp [hd0]
      have f52 : ts 102 = .bool true := h.tm (52, 102) (by decide) d52
      have f59 : ts 109 = .bool true := h.tm (59, 109) (by decide) d59
      refine GO_walk [] rfl (by kernel_rfl) (by first | assumption | simp) ?_; intro q hq; simp [hC, hY, f52, f59]; refine hq _ _ _ _ ?_; clear hq q
      exact hk _ _ ⟨c, g, h.tmp wkN1 wkN2 (i := 60) (t := 110) (by decide) rfl (by decide)⟩
    · -- 61
      have hd0 := hdep _ rfl
      simp [Region.binds] at hd0
      have d60 : listed[60]? = some true := by simp [hd0]
      have f60 : ts 110 = .bool true := h.tm (60, 110) (by decide) d60
      refine GO_walk [] rfl (by kernel_rfl) (by first | assumption | simp) ?_; intro q hq; simp [hC, hY, f60]; refine hq _ _ _ _ ?_; clear hq q
      exact hk _ _ ⟨c, g, h.tmp wkN1 wkN2 (i := 61) (t := 111) (by decide) rfl (by decide)⟩
    · -- 62
      have hd0 := hdep _ rfl
      simp [Region.binds] at hd0
      have d61 : listed[61]? = some true := by simp [hd0]
      have f61 : ts 111 = .bool true := h.tm (61, 111) (by decide) d61
      refine GO_walk [] rfl (by kernel_rfl) (by first | assumption | simp) ?_; intro q hq; simp [hC, hY, f61]; refine hq _ _ _ _ ?_; clear hq q
      exact hk _ _ ⟨c, g, h.tmp wkN1 wkN2 (i := 62) (t := 112) (by decide) rfl (by decide)⟩
    · -- 63
      have hd0 := hdep _ rfl
      simp [Region.binds] at hd0
      have d61 : listed[61]? = some true := by simp [hd0]
      have f61 : ts 111 = .bool true := h.tm (61, 111) (by decide) d61
      refine GO_walk [24] rfl (by kernel_rfl) (by first | assumption | simp) ?_; intro q hq; simp [hC, hY, f61]; (repeat ((first | (refine heapK_two (by omega) ?_)); try simp [hC, hY, f61])); refine hq _ _ _ _ ?_; clear hq q
      exact hk _ _ ⟨c, g, h.new wkN1 wkN2 wkX1 wkX2 (i := 63) (t := 113) (k := 1136) (by decide) rfl (by decide) rfl⟩
    · -- 64
      have hd0 := hdep _ rfl
      simp [Region.binds] at hd0
      have d61 : listed[61]? = some true := by simp [hd0]
      have d62 : listed[62]? = some true := by simp [hd0]
      have d63 : listed[63]? = some true := by simp [hd0]
      have f61 : ts 111 = .bool true := h.tm (61, 111) (by decide) d61
      have f62 : ts 112 = .agg #[.slice none 0 0, .int .i64 0, .int .i64 0, .int .i64 0, .int .i64 0, .int .i64 0] := h.tm (62, 112) (by decide) d62
      have f63 : ts 113 = .agg #[.int .i64 0, .slice (some ⟨1136, 0, none⟩) 2 2] := h.tm (63, 113) (by decide) d63
      have z63 : hp 1136 = some twoB := h.bx (63, 1136) (by decide) d63
      have low : ∀ k, k < 100 → hp k = G0 k := fun k hk => (h.h0 k (wkX100 k hk)).trans (hF.low k hk)
      refine GO_walk [13] rfl (by kernel_rfl) (by first | assumption | simp) ?_; intro q hq; simp [hC, hY, f61, f62, f63, z63]; (repeat ((first | (refine heapK_mv hck0 G0F (B := 200) (oneL_ok twoSB.fx) (fun k => if k = 100 then 1136 else k) (fun k hk => if_neg (by omega)) (by simp [cfV, ren, renA, renF, ren0]) (by simp) (by simp [htr, z63]) (by simp [keys]) (by simp [keys]; rfl) ?_)); try simp [hC, hY, f61, f62, f63, z63])); refine hq _ _ _ _ ?_; clear hq q
      exact hk _ _ ⟨c, g, h.tmp wkN1 wkN2 (i := 64) (t := 114) (by decide) rfl (by decide)⟩
    · -- 65
      have hd0 := hdep _ rfl
      simp [Region.binds] at hd0
      have d61 : listed[61]? = some true := by simp [hd0]
      have d64 : listed[64]? = some true := by simp [hd0]
      have f61 : ts 111 = .bool true := h.tm (61, 111) (by decide) d61
      have f64 : ts 114 = .int .i64 2 := h.tm (64, 114) (by decide) d64
      refine GO_walk [] rfl (by kernel_rfl) (by first | assumption | simp) ?_; intro q hq; simp [hC, hY, f61, f64]; refine hq _ _ _ _ ?_; clear hq q
      exact hk _ _ ⟨c, g, h.tmp wkN1 wkN2 (i := 65) (t := 115) (by decide) rfl (by decide)⟩
    · -- 66
      have hd0 := hdep _ rfl
      simp [Region.binds] at hd0
      have d61 : listed[61]? = some true := by simp [hd0]
      have d65 : listed[65]? = some true := by simp [hd0]
      have f61 : ts 111 = .bool true := h.tm (61, 111) (by decide) d61
      have f65 : ts 115 = .bool true := h.tm (65, 115) (by decide) d65
      refine GO_walk [] rfl (by kernel_rfl) (by first | assumption | simp) ?_; intro q hq; simp [hC, hY, f61, f65]; refine hq _ _ _ _ ?_; clear hq q
      exact hk _ _ ⟨c, g, h.tmp wkN1 wkN2 (i := 66) (t := 116) (by decide) rfl (by decide)⟩
    · -- 67
      have hd0 := hdep _ rfl
      simp [Region.binds] at hd0
      have d66 : listed[66]? = some true := by simp [hd0]
      have f66 : ts 116 = .bool true := h.tm (66, 116) (by decide) d66
      refine GO_walk [] rfl (by kernel_rfl) (by first | assumption | simp) ?_; intro q hq; simp [hC, hY, f66]; refine hq _ _ _ _ ?_; clear hq q
      exact hk _ _ ⟨c, g, h.tmp wkN1 wkN2 (i := 67) (t := 0) (by decide) rfl (by decide)⟩
  · have hno : ∀ j : Nat, (Array.replicate 68 false)[j]? ≠ some true := fun j => by
      rw [Array.getElem?_replicate]
      split <;> simp
    exact ⟨0, fun _ => 0, TI.start hno⟩
@[simp] theorem wakes13 (K : Value → Prop) : callK Tryd.prog G0 8 #[] K ↔ K (.bool true) := callK_iff G0W (by kernel_rfl) wakes13_ret
end Go.Gy
namespace Go.Gy
set_option linter.unusedSimpArgs false
set_option linter.unusedVariables false
open Go Go.RowKit Go.Proofs
theorem nw_wr {x : Int} (h0 : 0 ≤ x) (h1 : x ≤ 18446744073709551616) : wr x := ⟨Int.le_trans (by decide) h0, Int.lt_of_le_of_lt h1 (by decide)⟩
theorem NearWay_ret (i j q : Int) (hi : i64 i) (hj : i64 j) (h : i64 q) : Ret Tryd.prog G0 5 #[.agg #[.int .i64 i, .int .i64 j, .int .i64 q]] (.bool true) := by
  refine ret_of G0F Tryd.func5 rfl Tryd.call5 rfl (by simp) (by simp [Tryd.ntmps5]) ?_
  intro C hC hC0 hY
  by_cases h0 : q < 0
  · have l0 : wyLo q = 0 := if_neg (by omega)
    have l1 : wyHi q = 0 := if_neg (by omega)
    repeat' (first | refine GW_seq ?_ | simp only [List.length_cons, List.length_nil, Nat.reduceAdd, Nat.reduceMul, wN] | ((first | refine GW_region' [] (by kernel_rfl) ?_ | refine GW_draw' [] follows (by kernel_rfl) (by kernel_rfl) ?_); intro Q hQ hP; simp [hC, hY, h, h0, l0, l1]; (first | refine hQ _ _ _ _ ?_ | refine hQ _ _ _ _ (by kernel_rfl) ?_ | refine hP _ _ (fun _ => ?_) | refine hP _ _ (by kernel_rfl) (fun _ => ?_)); clear hQ hP Q) | refine GW_block ?_ | refine GW_ret ?_ | refine GW_skip ?_ | refine GW_exit ?_ | refine GW_goto ?_ | refine GW_label ?_ | simp only [blockG_exit] | (refine GW_cond (by simp; rfl) ?_ ?_ <;> (intro hb; first | (exfalso; exact absurd hb (by decide)) | skip)))
    refine ⟨.inr trivial, ?_⟩
    simp [Tryd.results5]
  have h0' : 0 ≤ q := by omega
  have hl : wyLo q = isq q := if_pos h0'
  obtain ⟨s0, s1⟩ := isq_small h h0'
  obtain ⟨_, s2, s3⟩ := isq_spec q h0'
  have hh : wyHi q = if isq q * isq q = q then isq q else isq q + 1 := if_pos h0'
  generalize hr : isq q = r at *
  have h1 := h.2
  have ir : i64 r := ⟨by omega, by omega⟩
  have ir1 : i64 (r + 1) := ⟨by omega, by omega⟩
  have b1 : Int.bmod (r + 1) 18446744073709551616 = r + 1 := bm (by omega) (by omega)
  have rr : 0 ≤ r * r := Int.mul_nonneg s0 s0
  have nn0 : 0 ≤ (r + 1) * (r + 1) := Int.mul_nonneg (by omega) (by omega)
  have nn : (r + 1) * (r + 1) ≤ 3037000501 * 3037000501 := Int.mul_le_mul (by omega) (by omega) (by omega) (by decide)
  have z1 := wr_sz (nw_wr s0 (by omega))
  have z2 := wr_sz (nw_wr (x := r + 1) (by omega) (by omega))
  have z3 := wr_sz (nw_wr rr (by omega))
  have z4 := wr_sz (nw_wr nn0 (by omega))
  have z5 := wr_sz (nw_wr h0' (by omega))
  have c1 : ¬ 0 < cmpI (r * r) q := by unfold cmpI; split <;> (try split) <;> omega
  have c2 : ¬ cmpI ((r + 1) * (r + 1)) q ≤ 0 := by unfold cmpI; split <;> (try split) <;> omega
  have n0 : ¬ r < 0 := by omega
  have n1 : ¬ 4294967296 < r := by omega
  by_cases e : r * r = q
  · rw [if_pos e] at hh
    have c3 : ¬ cmpI (r * r) q < 0 := by unfold cmpI; split <;> (try split) <;> omega
    have e1 : (r * r == q) = true := by simpa using e
    have eT : (r * r = q) = True := eq_true e
    repeat' (first | refine GW_seq ?_ | simp only [List.length_cons, List.length_nil, Nat.reduceAdd, Nat.reduceMul, wN] | ((first | refine GW_region' [] (by kernel_rfl) ?_ | refine GW_draw' [] follows (by kernel_rfl) (by kernel_rfl) ?_); intro Q hQ hP; simp [hC, hY, h, h0, h0', hl, hh, ir, ir1, b1, z1, z2, z3, z4, z5, c1, c2, c3, n0, n1, eT, e1, weq]; (first | refine hQ _ _ _ _ ?_ | refine hQ _ _ _ _ (by kernel_rfl) ?_ | refine hP _ _ (fun _ => ?_) | refine hP _ _ (by kernel_rfl) (fun _ => ?_)); clear hQ hP Q) | refine GW_block ?_ | refine GW_ret ?_ | refine GW_skip ?_ | refine GW_exit ?_ | refine GW_goto ?_ | refine GW_label ?_ | simp only [blockG_exit] | (refine GW_cond (by simp; rfl) ?_ ?_ <;> (intro hb; first | (exfalso; exact absurd hb (by decide)) | skip)))
    refine ⟨.inr trivial, ?_⟩
    simp [Tryd.results5]
  · rw [if_neg e] at hh
    have c3 : ¬ cmpI ((r + 1) * (r + 1)) q < 0 := by unfold cmpI; split <;> (try split) <;> omega
    have e1 : (r * r == q) = false := by simpa using e
    have e2 : (r + 1 == r) = false := by simp; omega
    repeat' (first | refine GW_seq ?_ | simp only [List.length_cons, List.length_nil, Nat.reduceAdd, Nat.reduceMul, wN] | ((first | refine GW_region' [] (by kernel_rfl) ?_ | refine GW_draw' [] follows (by kernel_rfl) (by kernel_rfl) ?_); intro Q hQ hP; simp [hC, hY, h, h0, h0', hl, hh, ir, ir1, b1, z1, z2, z3, z4, z5, c1, c2, c3, n0, n1, e, e1, e2, weq]; (first | refine hQ _ _ _ _ ?_ | refine hQ _ _ _ _ (by kernel_rfl) ?_ | refine hP _ _ (fun _ => ?_) | refine hP _ _ (by kernel_rfl) (fun _ => ?_)); clear hQ hP Q) | refine GW_block ?_ | refine GW_ret ?_ | refine GW_skip ?_ | refine GW_exit ?_ | refine GW_goto ?_ | refine GW_label ?_ | simp only [blockG_exit] | (refine GW_cond (by simp; rfl) ?_ ?_ <;> (intro hb; first | (exfalso; exact absurd hb (by decide)) | skip)))
    refine ⟨.inr trivial, ?_⟩
    simp [Tryd.results5]
end Go.Gy
namespace Go.Gy
set_option linter.unusedSimpArgs false
set_option linter.unusedVariables false
set_option maxRecDepth 100000
open Go Go.RowKit Go.Proofs Go.ChangeShapes Go.WideShapes Go.ChangeAt

section
variable {H : Type} {enc : TypeId × Value → H} {P : Program}
theorem post_of_below {f : Func} {s : ChangeSpec} {apart fresh handsOn again : Bool} {W W' : World} {args : Array Value} {v : Value} {ds gs : List (DataW H)} {before pa pv : List MemPlace}
    (hW : DataW.Whole enc P f.params.toList s.vars apart W args.toList ds gs before)
    (hres : ∀ (b : Nat) (sp : Nat → Bool) (hd : Bool), DataW.TrodAll enc P W' b sp hd f.resultTypes.toList (v.resultList f.resultTypes.size) (s.fn H (ds ++ gs)).results [])
    (hargs : ∀ sp : Nat → Bool, (∀ p ∈ before, sp p.block = true) → DataW.TrodAll enc P W' 0 sp true f.params.toList args.toList (s.fn H (ds ++ gs)).args pa)
    (hvars : ∀ sp : Nat → Bool, (∀ p ∈ before, sp p.block = true) → DataW.TrodVars enc P W' sp s.vars (s.fn H (ds ++ gs)).vars pv)
    (hps : before = pa ++ pv) (hb : Below W.heap.size W W')
    (hok : ∀ (j : Nat) (t : TypeId) (r : Value), f.resultTypes[j]? = some t → (v.resultList f.resultTypes.size)[j]? = some r → Value.okWide P W' .any 0 t r) :
    s.post enc P f apart fresh handsOn again W args v W' := by
  have hlt : ∀ p ∈ before, p.block < W.heap.size := fun p hp => hW.lt p hp
  have hold : ∀ p ∈ before, (fun b => decide (b < W.heap.size)) p.block = true := fun p hp => by simpa using hlt p hp
  refine ⟨ds, gs, before, [], pa, pv, hW, hres _ _ _, hargs _ hold, hvars _ hold, World.keptBut_mono (fun p hp => ⟨hp, ?_⟩) (hb.frame (· ∈ before)), fun _ => ?_⟩
  · rw [hps, List.mem_append] at hp
    exact Or.inr hp
  · obtain ⟨_, _, _, _, _, hz, hn⟩ := hW
    refine ⟨hok, _, _, ([] ++ pa) ++ pv, ⟨[] ++ pa, pv, trodAll_append (hargs _ (fun _ _ => rfl)) (hres _ _ _), hvars _ (fun _ _ => rfl), rfl, ?_, ?_⟩, ?_⟩
    · intro b off hp
      have hin : MemPlace.cell b off ∈ before := by rw [hps]; simpa using hp
      rw [hb.frozen (hlt _ hin)]
      exact hz b off hin
    · intro ha
      have := hn ha
      rw [hps] at this
      simpa using this
    · intro p hp _
      rw [hps]
      simpa using hp
end

/-! A wide number, an int, a point. -/
theorem mm_i64 : IntKind.i64.min = -9223372036854775808 ∧ IntKind.i64.max = 9223372036854775807 := by decide
theorem wf_i64 {z : Int} (h : (Lit.int .i64 z).wf = true) : i64 z := by
  simp only [Lit.wf, Bool.and_eq_true, decide_eq_true_eq, mm_i64.1, mm_i64.2] at h; unfold i64; omega
section
variable {H : Type} {enc : TypeId × Value → H} {w : World}
end

/-! What the rows' lists give. -/
theorem own : ownKnob Tryd.prog.godebug = none := by kernel_rfl
theorem heap_of_var {P : Program} {W : World} {name : String} {g : Nat} {cs : Array Value} {z : Array Value} {T : TypeId} (hg : P.globalNamed name = some g) (hlt : g < P.globals.size) (hrow : ((begin P (fun _ _ => 0) default).world.heap[g]?).bind Obj.row? = some (z, T))
    (hS : W.ShapedOpen P) (hv : W.var? P name = some cs) : W.heap[g]? = some (.cells cs T (0, 0)) := by
  obtain ⟨c, h1, _⟩ := hS.1 g z T hlt hrow
  unfold World.var? at hv
  rw [hg] at hv
  simp only [Option.bind_some, h1, Option.some.injEq] at hv
  rw [h1, hv]
/-- An array of texts that reads so holds just these. -/
theorem cells_of_strs {H : Type} {enc : TypeId × Value → H} {P : Program} {w : World} {base : Nat} {sp : Nat → Bool} {held : Bool} {fuel : Nat} {t e : TypeId} {n : Nat} {cs : List Value} {ss : List (List UInt8)} {p : List MemPlace}
    (ht : P.underlying t = some (.array n e)) (he : P.underlying e = some .string) (hce : P.cellsOf e = 1) (hct : P.cellsOf t = n)
    (h : DataW.trod enc P w base sp held fuel t cs = some (.agg (ss.map fun s => .lit (.string s)), p)) : cs = ss.map fun s => Value.string ⟨s.toArray⟩ := by
  cases fuel with
  | zero => simp [DataW.trod] at h
  | succ fuel =>
    simp only [DataW.trod, ht, hce, hct, Nat.mul_one] at h
    split at h
    · rename_i hl
      obtain ⟨xs, hm, hx⟩ := Option.map_eq_some_iff.1 h
      have hxs : xs.map (·.1) = ss.map fun s => (DataW.lit (.string s) : DataW H) := by
        have := congrArg Prod.fst hx
        simpa using this
      have hxl : xs.length = n := by simpa using Lib.mapM_length hm
      have hzl : ss.length = n := by
        have := congrArg List.length hxs
        simp at this
        omega
      apply List.ext_getElem?
      intro i
      by_cases hi : i < n
      · obtain ⟨b, hb, hf⟩ := Lib.mapM_at hm i i (by simp [hi])
        obtain ⟨s, hc, rfl, _⟩ := DataW.trod_string he hf
        have h1 : cs[i]? = some (.string s) := by
          have := congrArg (·[0]?) hc
          simpa [List.getElem?_take, List.getElem?_drop] using this
        have h2 : (xs.map (·.1))[i]? = some (DataW.lit (.string s.data.toList) : DataW H) := by simp [hb]
        rw [hxs] at h2
        simp only [List.getElem?_map, Option.map_eq_some_iff, DataW.lit.injEq, Lit.string.injEq] at h2
        obtain ⟨z', hz', rfl⟩ := h2
        simp [h1, hz']
      · rw [List.getElem?_eq_none (by omega), List.getElem?_eq_none (by simp; omega)]
    · cases h
theorem gNames : Tryd.prog.globalNamed "gyre/conf.names" = some 0 := by kernel_rfl
theorem gNamesType : (Tryd.prog.globals[0]?).map (·.type) = some 101 := by kernel_rfl
theorem cells_str : Tryd.prog.cellsOf 9 = 1 := by kernel_rfl
theorem cells_names : Tryd.prog.cellsOf 101 = 7 := by kernel_rfl
theorem gNamesRow : ((begin Tryd.prog (fun _ _ => 0) default).world.heap[0]?).bind Obj.row? = some (#[.string ⟨#[]⟩, .string ⟨#[]⟩, .string ⟨#[]⟩, .string ⟨#[]⟩, .string ⟨#[]⟩, .string ⟨#[]⟩, .string ⟨#[]⟩], 101) := by kernel_rfl
theorem names_of {W : World} {rest : List (String × DataW Unit)} (h : laidMet Tryd.prog (("gyre/conf.names", Proofs.YtlageemaenplfaaDoor.Rows.laid_gyre_conf_names) :: rest) W) : W.var? Tryd.prog "gyre/conf.names" = some cnB.c := by
  obtain ⟨ps, ⟨g', t', cs, fuel, p, q, hg', ht', hvar, hd, _, _⟩, _⟩ := h
  obtain rfl := Option.some.inj (gNames.symm.trans hg')
  obtain rfl := Option.some.inj (gNamesType.symm.trans ht')
  have h9 := cells_of_strs (ss := [[98, 111, 100, 105, 101, 115], [109, 97, 115, 115], [99, 111, 110, 115, 116, 97, 110, 116], [98, 111, 120], [116, 111, 112], [110, 101, 97, 114], [109, 101, 116, 104, 111, 100]]) Tryd.underlying101 Tryd.underlying9 cells_str cells_names hd
  rw [hvar]
  congr 1
  exact Array.ext' h9
theorem gok_names {W : World} (hS : W.ShapedOpen Tryd.prog) (hv : W.var? Tryd.prog "gyre/conf.names" = some cnB.c) : GOK G0 W := fun k b hk => by
  have h := G0_mem hk
  simp [G0L] at h
  obtain ⟨rfl, rfl⟩ := h
  exact heap_of_var gNames (of_decide_eq_true (by kernel_rfl)) gNamesRow hS hv
end Go.Gy
namespace Go.Gy
set_option linter.unusedSimpArgs false
set_option linter.unusedVariables false
set_option maxRecDepth 100000
open Go Go.RowKit Go.Proofs Go.ChangeShapes Go.WideShapes Go.ChangeAt
theorem celln_intP : Tryd.prog.cellsOf 3 = 1 := by kernel_rfl
theorem cells_pair : Tryd.prog.cellsOf 36 = 3 := by kernel_rfl
section
variable {H : Type} {enc : TypeId × Value → H} {w : World} {base : Nat} {spare : Nat → Bool} {held : Bool}
theorem open_pair {b0 : Nat} {r : Reach} {v : Value} {d : DataW H} {p : List MemPlace} (hv : Value.okWide Tryd.prog w r b0 36 v) (h : DataW.Trod enc Tryd.prog w base spare held 36 v d p) :
    ∃ x y z, (Lit.int .i64 x).wf = true ∧ (Lit.int .i64 y).wf = true ∧ (Lit.int .i64 z).wf = true ∧ v = .agg #[.int .i64 x, .int .i64 y, .int .i64 z] ∧ d = .agg [.lit (.int .i64 x), .lit (.int .i64 y), .lit (.int .i64 z)] ∧ p = [] := by
  simp only [Value.okWide, Tryd.underlying36] at hv
  obtain ⟨cs, rfl, hsz, _⟩ := hv
  obtain ⟨fuel, hf⟩ := h
  obtain ⟨y0, y1, y2, n, hx, hl, h0, h1, h2⟩ := Deep.trod_struct3 Tryd.underlying36 hf
  rw [celln_intP] at h0 h1 h2
  simp only [Value.cells] at h0 h1 h2
  obtain ⟨x, e0, rfl, w0⟩ := DataW.trod_int Tryd.underlying3 h0
  obtain ⟨y, e1, rfl, w1⟩ := DataW.trod_int Tryd.underlying3 h1
  obtain ⟨z, e2, rfl, w2⟩ := DataW.trod_int Tryd.underlying3 h2
  rw [cells_pair] at hsz
  obtain ⟨c0, c1, c2, rfl⟩ : ∃ c0 c1 c2, cs = #[c0, c1, c2] := by
    obtain ⟨l⟩ := cs
    match l, hsz with
    | [c0, c1, c2], _ => exact ⟨c0, c1, c2, rfl⟩
  simp at e0 e1 e2
  subst e0
  subst e1
  subst e2
  simp only [Prod.mk.injEq] at hx
  exact ⟨x, y, z, w0, w1, w2, rfl, hx.1, by simpa using hx.2⟩
theorem shut_pair (x y z : Int) (hx : (Lit.int .i64 x).wf = true) (hy : (Lit.int .i64 y).wf = true) (hz : (Lit.int .i64 z).wf = true) : DataW.Trod enc Tryd.prog w base spare held 36 (.agg #[.int .i64 x, .int .i64 y, .int .i64 z]) (.agg [.lit (.int .i64 x), .lit (.int .i64 y), .lit (.int .i64 z)]) [] := by
  refine ⟨2, ?_⟩
  have := Deep.trod_struct3_mk (enc := enc) (P := Tryd.prog) (w := w) (base := base) (spare := spare) (held := held) (n := 1) (cs := [.int .i64 x, .int .i64 y, .int .i64 z]) (y0 := (.lit (.int .i64 x), [])) (y1 := (.lit (.int .i64 y), [])) (y2 := (.lit (.int .i64 z), [])) Tryd.underlying36 (by rw [cells_pair]; rfl)
    (by rw [celln_intP]; exact trod_int_mk 0 Tryd.underlying3 hx) (by rw [celln_intP]; exact trod_int_mk 0 Tryd.underlying3 hy) (by rw [celln_intP]; exact trod_int_mk 0 Tryd.underlying3 hz)
  simpa [Value.cells] using this
end
end Go.Gy
