/-
  Contracts: pull.Pull.
  Conditions: none.
-/
import Derived.Test.YtggidgaeggekhaaDoorGyU7
namespace Go.Gy
set_option linter.unusedSimpArgs false
set_option linter.unusedVariables false
open Go Go.RowKit Go.Proofs
def puL (n d g m x0 x1 x2 : Int) (v : Blk) : List (Nat × Blk) := [(200, ib n), (208, ib d), (216, ib g), (224, ib m), (232, vb x0 x1 x2), (256, v)]
def puHp (n d g m x0 x1 x2 : Int) : Hp := hpL G1 (puL n d g m x0 x1 x2 (vb 0 0 0))
theorem puHp_rst (n d g m x0 x1 x2 : Int) : rst (puHp n d g m x0 x1 x2) [200, 208, 216, 224, 232, 256] = puHp n d g m x0 x1 x2 := hpL_rst G1F (by simp [puL])
theorem puHp_closed (n d g m x0 x1 x2 : Int) (D : Nat → Prop) (k : Nat) (c : Blk) (h : puHp n d g m x0 x1 x2 k = some c) : c.ids D := by
  rcases hpL_mem h with h | h
  · simp [puL] at h
    rcases h with ⟨_, rfl⟩ | ⟨_, rfl⟩ | ⟨_, rfl⟩ | ⟨_, rfl⟩ | ⟨_, rfl⟩ | ⟨_, rfl⟩ <;> simp [ib, vb]
  · exact G1_closed _ _ _ h
theorem puHp_free (n d g m x0 x1 x2 : Int) (x : Nat) (hx : 300 ≤ x) : puHp n d g m x0 x1 x2 x = none := by
  simp [puHp, puL, show ¬ x = 200 by omega, show ¬ x = 208 by omega, show ¬ x = 216 by omega, show ¬ x = 224 by omega, show ¬ x = 232 by omega, show ¬ x = 256 by omega, show 100 ≤ x by omega]
theorem psum_bad (x0 x1 x2 : Int) (h : ¬ (inB x0 ∧ inB x1 ∧ inB x2)) : RetP Tryd.prog G1 69 #[vv x0 x1 x2] (.pan (erV 2)) := by
  by_cases h0 : inB x0
  · by_cases h1 : inB x1
    · by_cases h2 : inB x2
      · exact absurd ⟨h0, h1, h2⟩ h
      · exact psum_bad2 x0 x1 x2 h0 h1 h2
    · exact psum_bad1 x0 x1 x2 h0 h1
  · exact psum_bad0 x0 x1 x2 h0
def puX (n d g m x0 x1 x2 r v0 v1 v2 : Int) (i : Nat) : Hp := hpL G1 [(200, ib n), (208, ib d), (216, ib g), (224, ib m), (232, vb x0 x1 x2), (256, vb (if 0 < i then v0 else 0) (if 1 < i then v1 else 0) (if 2 < i then v2 else 0)), (316, ib r)]
def puT : Nat → Value := tsL [(0, .pointer (some ⟨232, 0, none⟩)), (1, .pointer (some ⟨200, 0, none⟩)), (2, .pointer (some ⟨208, 0, none⟩)), (3, .pointer (some ⟨216, 0, none⟩)), (4, .pointer (some ⟨224, 0, none⟩)), (5, .pointer (some ⟨256, 0, none⟩)), (6, .pointer (some ⟨316, 0, none⟩))]
set_option maxHeartbeats 1000000 in
theorem pu1_ok (n d g m x0 x1 x2 : Int) (h0 : inB x0) (h1 : inB x1) (h2 : inB x2) (k0 : PIn n d g m x0 (x0 * x0 + x1 * x1 + x2 * x2)) (k1 : PIn n d g m x1 (x0 * x0 + x1 * x1 + x2 * x2)) (k2 : PIn n d g m x2 (x0 * x0 + x1 * x1 + x2 * x2)) :
    Fun Tryd.prog G1 68 [.pointer (some ⟨232, 0, none⟩), .pointer (some ⟨200, 0, none⟩), .pointer (some ⟨208, 0, none⟩), .pointer (some ⟨216, 0, none⟩), .pointer (some ⟨224, 0, none⟩), .pointer (some ⟨256, 0, none⟩)].toArray (puHp n d g m x0 x1 x2) [200, 208, 216, 224, 232, 256]
      (.ret (.tuple #[]) [(256, vb (pullV n d g m x0 (x0 * x0 + x1 * x1 + x2 * x2)) (pullV n d g m x1 (x0 * x0 + x1 * x1 + x2 * x2)) (pullV n d g m x2 (x0 * x0 + x1 * x1 + x2 * x2)))]) := by
  refine fun_of (B := 300) G1F (fun k hk => hpL_low (by simp [puL]) hk) Tryd.func68 rfl Tryd.call68 ?_ ?_ ?_ (by simp [Tryd.ntmps68]) (by omega) ?_ ?_
  · rw [puHp_rst]; simp [puHp, puL, dom]
  · rw [puHp_rst]; exact puHp_closed n d g m x0 x1 x2 _
  · refine ⟨flatV_ids (by simp), by simp [keys, puHp, puL, dom], fun k b c e1 e2 => ?_, by simp [vb]⟩
    simp at e1 e2
    rw [e1.2, e2.2]
  · rw [puHp_rst]; exact puHp_free n d g m x0 x1 x2
  · intro C hC hC0 hY
    rw [puHp_rst] at hC0 ⊢
    generalize hr : x0 * x0 + x1 * x1 + x2 * x2 = r at *
    have hsum := psum_ok x0 x1 x2 h0 h1 h2
    rw [hr] at hsum
    repeat' (first
      | refine GW_seq ?_
      | simp only [List.length_cons, List.length_nil, Nat.reduceAdd, Nat.reduceMul, thenG_normal, thenG_ret, thenG_exit, thenG_goto, thenG_panic, blockG_normal, blockG_ret, blockG_goto, blockG_panic, jumpG_normal, jumpG_ret, jumpG_exit, jumpG_panic]
      | (refine GW_region' [1000069] (by kernel_rfl) ?_; intro Q hQ hP; simp [hC, hY, puHp, puL, vb, ib]; (repeat (first | ((refine callP_of hsum ?_); try simp [hC, hY, puHp, puL, vb, ib]))); (first | refine hQ _ _ _ _ ?_ | refine hP _ _ (fun _ => ?_)); clear hQ hP Q)
      | (refine GW_draw' [1000069] follows (by kernel_rfl) (by kernel_rfl) ?_; intro Q hQ hP; simp [hC, hY, puHp, puL, vb, ib]; (repeat (first | ((refine callP_of hsum ?_); try simp [hC, hY, puHp, puL, vb, ib]))); (first | refine hQ _ _ _ _ (by kernel_rfl) ?_ | refine hP _ _ (by kernel_rfl) (fun _ => ?_)); clear hQ hP Q)
      | refine GW_block ?_
      | refine GW_ret ?_
      | refine GW_skip ?_
      | refine GW_exit ?_
      | refine GW_goto ?_
      | refine GW_label ?_
      | simp only [blockG_exit]
      | (refine GW_cond (by simp; rfl) ?_ ?_ <;> (intro hb; first | (exfalso; exact absurd hb (by decide)) | skip)))
    refine GW_region' [70] (by kernel_rfl) ?_; intro Q hQ hP; simp [hC, hY]
    refine heapK_of (parts_new x0 x1 x2 340 (by omega)) (by simp) (fun _ _ => rfl) (by simp [Res.at]) ?_
    simp
    refine hQ _ _ _ _ ?_; clear hQ hP Q
    repeat' (first
      | refine GW_seq ?_
      | simp only [List.length_cons, List.length_nil, Nat.reduceAdd, Nat.reduceMul, thenG_normal, thenG_ret, thenG_exit, thenG_goto, thenG_panic, blockG_normal, blockG_ret, blockG_goto, blockG_panic, jumpG_normal, jumpG_ret, jumpG_exit, jumpG_panic]
      | (refine GW_region' [] (by kernel_rfl) ?_; intro Q hQ hP; simp [hC, hY]; (first | refine hQ _ _ _ _ ?_ | refine hP _ _ (fun _ => ?_)); clear hQ hP Q)
      | (refine GW_draw' [] follows (by kernel_rfl) (by kernel_rfl) ?_; intro Q hQ hP; simp [hC, hY]; (first | refine hQ _ _ _ _ (by kernel_rfl) ?_ | refine hP _ _ (by kernel_rfl) (fun _ => ?_)); clear hQ hP Q)
      | refine GW_block ?_
      | refine GW_ret ?_
      | refine GW_skip ?_
      | refine GW_exit ?_
      | refine GW_goto ?_
      | refine GW_label ?_
      | simp only [blockG_exit]
      | (refine GW_cond (by simp; rfl) ?_ ?_ <;> (intro hb; first | (exfalso; exact absurd hb (by decide)) | skip)))
    refine GW_range (f := 94) (rs := [340]) (xs := partsXs x0 x1 x2) (caps := #[.pointer (some ⟨340, 0, none⟩)]) (by simp) ?_ (by simp [partsXs]) (by simp [Tryd.ntmps68]) puT (puX n d g m x0 x1 x2 r (pullV n d g m x0 r) (pullV n d g m x1 r) (pullV n d g m x2 r)) 400 3 (by simp [partsXs]) ?_ ?_ ?_ ?_ ?_
    · rw [hC]
      refine IterX.cast (IterX.rn (fun k => if k = 100 then 340 else k) G1F (fun k hk => hpL_low (by simp) hk) (rs := [100]) ?_ (parts_it x0 x1 x2)) (by simp [ren0]) (by simp)
      refine ⟨fun k hk => ?_, ?_, ?_, ?_⟩
      · have e1 : ¬ k = 100 := by omega
        have e2 : ¬ k = 200 := by omega
        have e3 : ¬ k = 208 := by omega
        have e4 : ¬ k = 216 := by omega
        have e5 : ¬ k = 224 := by omega
        have e6 : ¬ k = 232 := by omega
        have e7 : ¬ k = 256 := by omega
        have e8 : ¬ k = 316 := by omega
        have e9 : ¬ k = 340 := by omega
        simp [e1, e2, e3, e4, e5, e6, e7, e8, e9, pHp]
      · simp
      · simp [pHp, vb, Blk.rn, renF, ren0]
      · simp
    · refine weakL _ 400 hC G1F (m0 := puL n d g m x0 x1 x2 (vb 0 0 0)) hC0 (by omega) ?_ ?_ ?_
      · simp [idsV, idsA, idsF, ids0, dom]
      · simp [ids_lit, idsF, ids0, vb, ib]
      · simp [vb, ib, puL]
    · simp [puX, dom]
    · intro i hi t
      refine tsL_ids ?_ t
      simp [idsV, idsA, idsF, ids0, dom, puX]
    · intro i x hi hx C1 l hC1 hh1 hY1
      have hCC := hC
      have hC1' : C1.G = G1 := hC1.trans hC
      replace hC := hC1'
      replace hY := hY1
      have : i = 0 ∨ i = 1 ∨ i = 2 := by omega
      rcases this with rfl | rfl | rfl
      all_goals
        simp [partsXs] at hx
        subst hx
        unfold puX
      all_goals
        repeat' (first
          | refine GW_seq ?_
          | simp only [List.length_cons, List.length_nil, Nat.reduceAdd, Nat.reduceMul, thenG_normal, thenG_ret, thenG_exit, thenG_goto, thenG_panic, blockG_normal, blockG_ret, blockG_goto, blockG_panic, jumpG_normal, jumpG_ret, jumpG_exit, jumpG_panic]
          | (refine GW_region' [] (by kernel_rfl) ?_; intro Q hQ hP; simp [hC, hY, roundTs, puT]; (first | refine hQ _ _ _ _ ?_ | refine hP _ _ (fun _ => ?_)); clear hQ hP Q)
          | (refine GW_draw' [] follows (by kernel_rfl) (by kernel_rfl) ?_; intro Q hQ hP; simp [hC, hY, roundTs, puT]; (first | refine hQ _ _ _ _ (by kernel_rfl) ?_ | refine hP _ _ (by kernel_rfl) (fun _ => ?_)); clear hQ hP Q)
          | refine GW_block ?_
          | refine GW_ret ?_
          | refine GW_skip ?_
          | refine GW_exit ?_
          | refine GW_goto ?_
          | refine GW_label ?_
          | simp only [blockG_exit]
          | (refine GW_cond (by simp; rfl) ?_ ?_ <;> (intro hb; first | (exfalso; exact absurd hb (by decide)) | skip)))
      all_goals
        intro C2 hC2 hh2 hY2
        replace hC : C2.G = G1 := hC2.trans hCC
        replace hY := hY2
        repeat' (first
          | refine GW_seq ?_
          | simp only [List.length_cons, List.length_nil, Nat.reduceAdd, Nat.reduceMul, thenG_normal, thenG_ret, thenG_exit, thenG_goto, thenG_panic, blockG_normal, blockG_ret, blockG_goto, blockG_panic, jumpG_normal, jumpG_ret, jumpG_exit, jumpG_panic]
          | (refine GW_region' [1000071] (by kernel_rfl) ?_; intro Q hQ hP; simp [hC, hY, roundTs, puT, vb, ib]; (repeat (first | ((refine callP_of (one_ok _ _ _ _ _ _ k0) ?_); try simp [hC, hY, roundTs, puT, vb, ib]) | ((refine callP_of (one_ok _ _ _ _ _ _ k1) ?_); try simp [hC, hY, roundTs, puT, vb, ib]) | ((refine callP_of (one_ok _ _ _ _ _ _ k2) ?_); try simp [hC, hY, roundTs, puT, vb, ib]))); (first | refine hQ _ _ _ _ ?_ | refine hP _ _ (fun _ => ?_)); clear hQ hP Q)
          | (refine GW_draw' [1000071] follows (by kernel_rfl) (by kernel_rfl) ?_; intro Q hQ hP; simp [hC, hY, roundTs, puT, vb, ib]; (repeat (first | ((refine callP_of (one_ok _ _ _ _ _ _ k0) ?_); try simp [hC, hY, roundTs, puT, vb, ib]) | ((refine callP_of (one_ok _ _ _ _ _ _ k1) ?_); try simp [hC, hY, roundTs, puT, vb, ib]) | ((refine callP_of (one_ok _ _ _ _ _ _ k2) ?_); try simp [hC, hY, roundTs, puT, vb, ib]))); (first | refine hQ _ _ _ _ (by kernel_rfl) ?_ | refine hP _ _ (by kernel_rfl) (fun _ => ?_)); clear hQ hP Q)
          | refine GW_block ?_
          | refine GW_ret ?_
          | refine GW_skip ?_
          | refine GW_exit ?_
          | refine GW_goto ?_
          | refine GW_label ?_
          | simp only [blockG_exit]
          | (refine GW_cond (by simp; rfl) ?_ ?_ <;> (intro hb; first | (exfalso; exact absurd hb (by decide)) | skip)))
      all_goals
        refine weakL [] 400 hC1' G1F hh1 (by omega) ?_ ?_ ?_
        · simp
        · simp [ids_lit, idsF, ids0, vb, ib]
        · simp [vb, ib]
    · left
      refine ⟨rfl, ?_⟩
      unfold puX puT
      repeat' (first
        | refine GW_seq ?_
        | simp only [List.length_cons, List.length_nil, Nat.reduceAdd, Nat.reduceMul, thenG_normal, thenG_ret, thenG_exit, thenG_goto, thenG_panic, blockG_normal, blockG_ret, blockG_goto, blockG_panic, jumpG_normal, jumpG_ret, jumpG_exit, jumpG_panic]
        | (refine GW_region' [] (by kernel_rfl) ?_; intro Q hQ hP; simp [hC, hY]; (first | refine hQ _ _ _ _ ?_ | refine hP _ _ (fun _ => ?_)); clear hQ hP Q)
        | (refine GW_draw' [] follows (by kernel_rfl) (by kernel_rfl) ?_; intro Q hQ hP; simp [hC, hY]; (first | refine hQ _ _ _ _ (by kernel_rfl) ?_ | refine hP _ _ (by kernel_rfl) (fun _ => ?_)); clear hQ hP Q)
        | refine GW_block ?_
        | refine GW_ret ?_
        | refine GW_skip ?_
        | refine GW_exit ?_
        | refine GW_goto ?_
        | refine GW_label ?_
        | simp only [blockG_exit]
        | (refine GW_cond (by simp; rfl) ?_ ?_ <;> (intro hb; first | (exfalso; exact absurd hb (by decide)) | skip)))
      refine ⟨.inl rfl, by simp [Tryd.results68], fun k hk => ?_⟩
      have hk3 : ¬ k = 316 := fun e => hk (e ▸ puHp_free n d g m x0 x1 x2 316 (by omega))
      by_cases e6 : k = 256
      · subst e6; simp [updL, puHp, puL]
      · simp [updL, puHp, puL, hk3, e6]
set_option maxHeartbeats 1000000 in
theorem pu1_bad0 (n d g m x0 x1 x2 : Int) (h : ¬ (inB x0 ∧ inB x1 ∧ inB x2)) :
    Fun Tryd.prog G1 68 [.pointer (some ⟨232, 0, none⟩), .pointer (some ⟨200, 0, none⟩), .pointer (some ⟨208, 0, none⟩), .pointer (some ⟨216, 0, none⟩), .pointer (some ⟨224, 0, none⟩), .pointer (some ⟨256, 0, none⟩)].toArray (puHp n d g m x0 x1 x2) [200, 208, 216, 224, 232, 256]
      (.pan (erV 2)) := by
  have hp := psum_bad x0 x1 x2 h
  refine fun_of (B := 300) G1F (fun k hk => hpL_low (by simp [puL]) hk) Tryd.func68 rfl Tryd.call68 ?_ ?_ trivial (by simp [Tryd.ntmps68]) (by omega) ?_ ?_
  · rw [puHp_rst]; simp [puHp, puL, dom]
  · rw [puHp_rst]; exact puHp_closed n d g m x0 x1 x2 _
  · rw [puHp_rst]; exact puHp_free n d g m x0 x1 x2
  · intro C hC hC0 hY
    rw [puHp_rst] at hC0 ⊢
    repeat' (first
      | refine GW_seq ?_
      | simp only [List.length_cons, List.length_nil, Nat.reduceAdd, Nat.reduceMul, thenG_normal, thenG_ret, thenG_exit, thenG_goto, thenG_panic, blockG_normal, blockG_ret, blockG_goto, blockG_panic, jumpG_normal, jumpG_ret, jumpG_exit, jumpG_panic]
      | (refine GW_region' [1000069] (by kernel_rfl) ?_; intro Q hQ hP; simp [hC, hY, puHp, puL, vb, ib]; (repeat (first | ((refine callP_of hp ?_); try simp [hC, hY, puHp, puL, vb, ib]))); (first | refine hQ _ _ _ _ ?_ | refine hP _ _ (fun _ => ?_)); clear hQ hP Q)
      | (refine GW_draw' [1000069] follows (by kernel_rfl) (by kernel_rfl) ?_; intro Q hQ hP; simp [hC, hY, puHp, puL, vb, ib]; (repeat (first | ((refine callP_of hp ?_); try simp [hC, hY, puHp, puL, vb, ib]))); (first | refine hQ _ _ _ _ (by kernel_rfl) ?_ | refine hP _ _ (by kernel_rfl) (fun _ => ?_)); clear hQ hP Q)
      | refine GW_block ?_
      | refine GW_ret ?_
      | refine GW_skip ?_
      | refine GW_exit ?_
      | refine GW_goto ?_
      | refine GW_label ?_
      | simp only [blockG_exit]
      | (refine GW_cond (by simp; rfl) ?_ ?_ <;> (intro hb; first | (exfalso; exact absurd hb (by decide)) | skip)))
    refine ⟨rfl, fun k hk => ?_⟩
    have hk3 : k < 300 := Classical.byContradiction fun h => hk (puHp_free n d g m x0 x1 x2 k (by omega))
    first | rfl | (simp (disch := omega) only [upd_far]; rfl)
theorem pu1_bad1 (n d g m x0 x1 x2 : Int) (h0 : inB x0) (h1 : inB x1) (h2 : inB x2) (he : chkE n d g m x0 (x0 * x0 + x1 * x1 + x2 * x2) ≠ 0) :
    Fun Tryd.prog G1 68 [.pointer (some ⟨232, 0, none⟩), .pointer (some ⟨200, 0, none⟩), .pointer (some ⟨208, 0, none⟩), .pointer (some ⟨216, 0, none⟩), .pointer (some ⟨224, 0, none⟩), .pointer (some ⟨256, 0, none⟩)].toArray (puHp n d g m x0 x1 x2) [200, 208, 216, 224, 232, 256]
      (.pan (erV (chkE n d g m x0 (x0 * x0 + x1 * x1 + x2 * x2)))) := by
  refine fun_of (B := 300) G1F (fun k hk => hpL_low (by simp [puL]) hk) Tryd.func68 rfl Tryd.call68 ?_ ?_ trivial (by simp [Tryd.ntmps68]) (by omega) ?_ ?_
  · rw [puHp_rst]; simp [puHp, puL, dom]
  · rw [puHp_rst]; exact puHp_closed n d g m x0 x1 x2 _
  · rw [puHp_rst]; exact puHp_free n d g m x0 x1 x2
  · intro C hC hC0 hY
    rw [puHp_rst] at hC0 ⊢
    generalize hr : x0 * x0 + x1 * x1 + x2 * x2 = r at *
    have hsum := psum_ok x0 x1 x2 h0 h1 h2
    rw [hr] at hsum
    repeat' (first
      | refine GW_seq ?_
      | simp only [List.length_cons, List.length_nil, Nat.reduceAdd, Nat.reduceMul, thenG_normal, thenG_ret, thenG_exit, thenG_goto, thenG_panic, blockG_normal, blockG_ret, blockG_goto, blockG_panic, jumpG_normal, jumpG_ret, jumpG_exit, jumpG_panic]
      | (refine GW_region' [1000069] (by kernel_rfl) ?_; intro Q hQ hP; simp [hC, hY, puHp, puL, vb, ib]; (repeat (first | ((refine callP_of hsum ?_); try simp [hC, hY, puHp, puL, vb, ib]))); (first | refine hQ _ _ _ _ ?_ | refine hP _ _ (fun _ => ?_)); clear hQ hP Q)
      | (refine GW_draw' [1000069] follows (by kernel_rfl) (by kernel_rfl) ?_; intro Q hQ hP; simp [hC, hY, puHp, puL, vb, ib]; (repeat (first | ((refine callP_of hsum ?_); try simp [hC, hY, puHp, puL, vb, ib]))); (first | refine hQ _ _ _ _ (by kernel_rfl) ?_ | refine hP _ _ (by kernel_rfl) (fun _ => ?_)); clear hQ hP Q)
      | refine GW_block ?_
      | refine GW_ret ?_
      | refine GW_skip ?_
      | refine GW_exit ?_
      | refine GW_goto ?_
      | refine GW_label ?_
      | simp only [blockG_exit]
      | (refine GW_cond (by simp; rfl) ?_ ?_ <;> (intro hb; first | (exfalso; exact absurd hb (by decide)) | skip)))
    refine GW_region' [70] (by kernel_rfl) ?_; intro Q hQ hP; simp [hC, hY]
    refine heapK_of (parts_new x0 x1 x2 340 (by omega)) (by simp) (fun _ _ => rfl) (by simp [Res.at]) ?_
    simp
    refine hQ _ _ _ _ ?_; clear hQ hP Q
    repeat' (first
      | refine GW_seq ?_
      | simp only [List.length_cons, List.length_nil, Nat.reduceAdd, Nat.reduceMul, thenG_normal, thenG_ret, thenG_exit, thenG_goto, thenG_panic, blockG_normal, blockG_ret, blockG_goto, blockG_panic, jumpG_normal, jumpG_ret, jumpG_exit, jumpG_panic]
      | (refine GW_region' [] (by kernel_rfl) ?_; intro Q hQ hP; simp [hC, hY]; (first | refine hQ _ _ _ _ ?_ | refine hP _ _ (fun _ => ?_)); clear hQ hP Q)
      | (refine GW_draw' [] follows (by kernel_rfl) (by kernel_rfl) ?_; intro Q hQ hP; simp [hC, hY]; (first | refine hQ _ _ _ _ (by kernel_rfl) ?_ | refine hP _ _ (by kernel_rfl) (fun _ => ?_)); clear hQ hP Q)
      | refine GW_block ?_
      | refine GW_ret ?_
      | refine GW_skip ?_
      | refine GW_exit ?_
      | refine GW_goto ?_
      | refine GW_label ?_
      | simp only [blockG_exit]
      | (refine GW_cond (by simp; rfl) ?_ ?_ <;> (intro hb; first | (exfalso; exact absurd hb (by decide)) | skip)))
    refine GW_rangeP (erV (chkE n d g m x0 r)) (f := 94) (rs := [340]) (xs := partsXs x0 x1 x2) (caps := #[.pointer (some ⟨340, 0, none⟩)]) (by simp) ?_ (by simp [partsXs]) (by simp [Tryd.ntmps68]) puT (puX n d g m x0 x1 x2 r 0 0 0) 400 0 (by simp [partsXs]) ?_ ?_ ?_ ?_ ?_ ?_
    · rw [hC]
      intro pv
      refine IterX.cast (IterX.rn (fun k => if k = 100 then 340 else k) G1F (fun k hk => hpL_low (by simp) hk) (rs := [100]) ?_ (parts_itP x0 x1 x2 pv)) (by simp [ren0]) (by simp)
      refine ⟨fun k hk => ?_, ?_, ?_, ?_⟩
      · have e1 : ¬ k = 100 := by omega
        have e2 : ¬ k = 200 := by omega
        have e3 : ¬ k = 208 := by omega
        have e4 : ¬ k = 216 := by omega
        have e5 : ¬ k = 224 := by omega
        have e6 : ¬ k = 232 := by omega
        have e7 : ¬ k = 256 := by omega
        have e8 : ¬ k = 316 := by omega
        have e9 : ¬ k = 340 := by omega
        simp [e1, e2, e3, e4, e5, e6, e7, e8, e9, pHp]
      · simp
      · simp [pHp, vb, Blk.rn, renF, ren0]
      · simp
    · refine weakL _ 400 hC G1F (m0 := puL n d g m x0 x1 x2 (vb 0 0 0)) hC0 (by omega) ?_ ?_ ?_
      · simp [idsV, idsA, idsF, ids0, dom]
      · simp [ids_lit, idsF, ids0, vb, ib]
      · simp [vb, ib, puL]
    · simp [puX, dom]
    · intro i hi t
      refine tsL_ids ?_ t
      simp [idsV, idsA, idsF, ids0, dom, puX]
    · intro i x hi hx C1 l hC1 hh1 hY1
      omega
    · intro c hc
      obtain rfl : c = 0 := by omega
      refine ⟨rfl, fun k hk => ?_⟩
      have hk3 : ¬ k = 316 := fun e => hk (e ▸ puHp_free n d g m x0 x1 x2 316 (by omega))
      simp [puX, puHp, puL, hk3]
    · refine ⟨#[.int .i64 0, .int .i64 x0], by simp [partsXs], ?_⟩
      intro C1 l hC1 hh1 hY1
      have hCC := hC
      have hC1' : C1.G = G1 := hC1.trans hC
      replace hC := hC1'
      replace hY := hY1
      unfold puX
      repeat' (first
        | refine GW_seq ?_
        | simp only [List.length_cons, List.length_nil, Nat.reduceAdd, Nat.reduceMul, thenG_normal, thenG_ret, thenG_exit, thenG_goto, thenG_panic, blockG_normal, blockG_ret, blockG_goto, blockG_panic, jumpG_normal, jumpG_ret, jumpG_exit, jumpG_panic]
        | (refine GW_region' [] (by kernel_rfl) ?_; intro Q hQ hP; simp [hC, hY, roundTs, puT]; (first | refine hQ _ _ _ _ ?_ | refine hP _ _ (fun _ => ?_)); clear hQ hP Q)
        | (refine GW_draw' [] follows (by kernel_rfl) (by kernel_rfl) ?_; intro Q hQ hP; simp [hC, hY, roundTs, puT]; (first | refine hQ _ _ _ _ (by kernel_rfl) ?_ | refine hP _ _ (by kernel_rfl) (fun _ => ?_)); clear hQ hP Q)
        | refine GW_block ?_
        | refine GW_ret ?_
        | refine GW_skip ?_
        | refine GW_exit ?_
        | refine GW_goto ?_
        | refine GW_label ?_
        | simp only [blockG_exit]
        | (refine GW_cond (by simp; rfl) ?_ ?_ <;> (intro hb; first | (exfalso; exact absurd hb (by decide)) | skip)))
      intro C2 hC2 hh2 hY2
      replace hC : C2.G = G1 := hC2.trans hCC
      replace hY := hY2
      repeat' (first
        | refine GW_seq ?_
        | simp only [List.length_cons, List.length_nil, Nat.reduceAdd, Nat.reduceMul, thenG_normal, thenG_ret, thenG_exit, thenG_goto, thenG_panic, blockG_normal, blockG_ret, blockG_goto, blockG_panic, jumpG_normal, jumpG_ret, jumpG_exit, jumpG_panic]
        | (refine GW_region' [1000071] (by kernel_rfl) ?_; intro Q hQ hP; simp [hC, hY, roundTs, puT, vb, ib]; (repeat (first | ((refine callP_of (one_bad _ _ _ _ _ _ he) ?_); try simp [hC, hY, roundTs, puT, vb, ib]))); (first | refine hQ _ _ _ _ ?_ | refine hP _ _ (fun _ => ?_)); clear hQ hP Q)
        | (refine GW_draw' [1000071] follows (by kernel_rfl) (by kernel_rfl) ?_; intro Q hQ hP; simp [hC, hY, roundTs, puT, vb, ib]; (repeat (first | ((refine callP_of (one_bad _ _ _ _ _ _ he) ?_); try simp [hC, hY, roundTs, puT, vb, ib]))); (first | refine hQ _ _ _ _ (by kernel_rfl) ?_ | refine hP _ _ (by kernel_rfl) (fun _ => ?_)); clear hQ hP Q)
        | refine GW_block ?_
        | refine GW_ret ?_
        | refine GW_skip ?_
        | refine GW_exit ?_
        | refine GW_goto ?_
        | refine GW_label ?_
        | simp only [blockG_exit]
        | (refine GW_cond (by simp; rfl) ?_ ?_ <;> (intro hb; first | (exfalso; exact absurd hb (by decide)) | skip)))
      refine ⟨rfl, fun t => ?_, rfl, fun k hk => ?_⟩
      · refine tsL_ids ?_ t
        simp [idsV, idsA, idsF, ids0, dom]
      · have hk3 : ¬ k = 316 := fun e => hk (e ▸ puHp_free n d g m x0 x1 x2 316 (by omega))
        simp [puHp, puL, hk3]
theorem ppull_ok (n d g m x0 x1 x2 : Int) (h0 : inB x0) (h1 : inB x1) (h2 : inB x2) (k0 : PIn n d g m x0 (x0 * x0 + x1 * x1 + x2 * x2)) (k1 : PIn n d g m x1 (x0 * x0 + x1 * x1 + x2 * x2)) (k2 : PIn n d g m x2 (x0 * x0 + x1 * x1 + x2 * x2)) : Ret Tryd.prog G1 33 #[.int .i64 n, .int .i64 d, .int .i64 g, .int .i64 m, vv x0 x1 x2] (.tuple #[vv (pullV n d g m x0 (x0 * x0 + x1 * x1 + x2 * x2)) (pullV n d g m x1 (x0 * x0 + x1 * x1 + x2 * x2)) (pullV n d g m x2 (x0 * x0 + x1 * x1 + x2 * x2)), .int .i64 0]) := by
  refine ret_of G1F Tryd.func33 rfl Tryd.call33 (by simp [vv]) (by simp [vv]) (by simp [Tryd.ntmps33]) ?_
  intro C hC hC0 hY
  repeat' (first
    | refine GW_seq ?_
    | simp only [List.length_cons, List.length_nil, Nat.reduceAdd, Nat.reduceMul, thenG_normal, thenG_ret, thenG_exit, thenG_goto, thenG_panic, blockG_normal, blockG_ret, blockG_goto, blockG_panic, jumpG_normal, jumpG_ret, jumpG_exit, jumpG_panic]
    | (refine GW_region' [67] (by kernel_rfl) ?_; intro Q hQ hP; simp [hC, hY, vv, vb, ib]; (repeat (first | ((refine heapK_of (hp' := puHp n d g m x0 x1 x2) (ptold_ret (fun k hk => hpL_low (by simp [puL]) hk) (by simp) rfl (by simp) (pu1_ok n d g m x0 x1 x2 h0 h1 h2 k0 k1 k2)) (by simp [puHp, puL, vb, ib]) (fun k hk => hpL_low (by simp [puL]) hk) trivial ?_); try simp [hC, hY, vv, vb, ib]))); (first | refine hQ _ _ _ _ ?_ | refine hP _ _ (fun _ => ?_)); clear hQ hP Q)
    | (refine GW_draw' [67] follows (by kernel_rfl) (by kernel_rfl) ?_; intro Q hQ hP; simp [hC, hY, vv, vb, ib]; (repeat (first | ((refine heapK_of (hp' := puHp n d g m x0 x1 x2) (ptold_ret (fun k hk => hpL_low (by simp [puL]) hk) (by simp) rfl (by simp) (pu1_ok n d g m x0 x1 x2 h0 h1 h2 k0 k1 k2)) (by simp [puHp, puL, vb, ib]) (fun k hk => hpL_low (by simp [puL]) hk) trivial ?_); try simp [hC, hY, vv, vb, ib]))); (first | refine hQ _ _ _ _ (by kernel_rfl) ?_ | refine hP _ _ (by kernel_rfl) (fun _ => ?_)); clear hQ hP Q)
    | refine GW_block ?_
    | refine GW_ret ?_
    | refine GW_skip ?_
    | refine GW_exit ?_
    | refine GW_goto ?_
    | refine GW_label ?_
    | simp only [blockG_exit]
    | (refine GW_cond (by simp; rfl) ?_ ?_ <;> (intro hb; first | (exfalso; exact absurd hb (by decide)) | skip)))
  refine ⟨.inr trivial, ?_⟩
  simp [Tryd.results33, vv]
theorem ppull_bad0 (n d g m x0 x1 x2 : Int) (h : ¬ (inB x0 ∧ inB x1 ∧ inB x2)) : Ret Tryd.prog G1 33 #[.int .i64 n, .int .i64 d, .int .i64 g, .int .i64 m, vv x0 x1 x2] (.tuple #[vv 0 0 0, .int .i64 2]) := by
  refine ret_of G1F Tryd.func33 rfl Tryd.call33 (by simp [vv]) (by simp [vv]) (by simp [Tryd.ntmps33]) ?_
  intro C hC hC0 hY
  repeat' (first
    | refine GW_seq ?_
    | simp only [List.length_cons, List.length_nil, Nat.reduceAdd, Nat.reduceMul, thenG_normal, thenG_ret, thenG_exit, thenG_goto, thenG_panic, blockG_normal, blockG_ret, blockG_goto, blockG_panic, jumpG_normal, jumpG_ret, jumpG_exit, jumpG_panic]
    | (refine GW_region' [67] (by kernel_rfl) ?_; intro Q hQ hP; simp [hC, hY, vv, vb, ib]; (repeat (first | ((refine heapK_of (hp' := puHp n d g m x0 x1 x2) (ptold_pan (fun k hk => hpL_low (by simp [puL]) hk) (by simp) rfl (by simp) (pu1_bad0 n d g m x0 x1 x2 h)) (by simp [puHp, puL, vb, ib]) (fun k hk => hpL_low (by simp [puL]) hk) trivial ?_); try simp [hC, hY, vv, vb, ib]))); (first | refine hQ _ _ _ _ ?_ | refine hP _ _ (fun _ => ?_)); clear hQ hP Q)
    | (refine GW_draw' [67] follows (by kernel_rfl) (by kernel_rfl) ?_; intro Q hQ hP; simp [hC, hY, vv, vb, ib]; (repeat (first | ((refine heapK_of (hp' := puHp n d g m x0 x1 x2) (ptold_pan (fun k hk => hpL_low (by simp [puL]) hk) (by simp) rfl (by simp) (pu1_bad0 n d g m x0 x1 x2 h)) (by simp [puHp, puL, vb, ib]) (fun k hk => hpL_low (by simp [puL]) hk) trivial ?_); try simp [hC, hY, vv, vb, ib]))); (first | refine hQ _ _ _ _ (by kernel_rfl) ?_ | refine hP _ _ (by kernel_rfl) (fun _ => ?_)); clear hQ hP Q)
    | refine GW_block ?_
    | refine GW_ret ?_
    | refine GW_skip ?_
    | refine GW_exit ?_
    | refine GW_goto ?_
    | refine GW_label ?_
    | simp only [blockG_exit]
    | (refine GW_cond (by simp; rfl) ?_ ?_ <;> (intro hb; first | (exfalso; exact absurd hb (by decide)) | skip)))
  refine ⟨.inr trivial, ?_⟩
  simp [Tryd.results33, vv]
theorem ppull_bad1 (n d g m x0 x1 x2 : Int) (h0 : inB x0) (h1 : inB x1) (h2 : inB x2) (he : chkE n d g m x0 (x0 * x0 + x1 * x1 + x2 * x2) ≠ 0) : Ret Tryd.prog G1 33 #[.int .i64 n, .int .i64 d, .int .i64 g, .int .i64 m, vv x0 x1 x2] (.tuple #[vv 0 0 0, .int .i64 (chkE n d g m x0 (x0 * x0 + x1 * x1 + x2 * x2))]) := by
  refine ret_of G1F Tryd.func33 rfl Tryd.call33 (by simp [vv]) (by simp [vv]) (by simp [Tryd.ntmps33]) ?_
  intro C hC hC0 hY
  have hcb : (chkE n d g m x0 (x0 * x0 + x1 * x1 + x2 * x2) != 0) = true := by simpa using he
  repeat' (first
    | refine GW_seq ?_
    | simp only [List.length_cons, List.length_nil, Nat.reduceAdd, Nat.reduceMul, thenG_normal, thenG_ret, thenG_exit, thenG_goto, thenG_panic, blockG_normal, blockG_ret, blockG_goto, blockG_panic, jumpG_normal, jumpG_ret, jumpG_exit, jumpG_panic]
    | (refine GW_region' [67] (by kernel_rfl) ?_; intro Q hQ hP; simp [hC, hY, vv, vb, ib, hcb]; (repeat (first | ((refine heapK_of (hp' := puHp n d g m x0 x1 x2) (ptold_pan (fun k hk => hpL_low (by simp [puL]) hk) (by simp) rfl (by simp) (pu1_bad1 n d g m x0 x1 x2 h0 h1 h2 he)) (by simp [puHp, puL, vb, ib]) (fun k hk => hpL_low (by simp [puL]) hk) trivial ?_); try simp [hC, hY, vv, vb, ib, hcb]))); (first | refine hQ _ _ _ _ ?_ | refine hP _ _ (fun _ => ?_)); clear hQ hP Q)
    | (refine GW_draw' [67] follows (by kernel_rfl) (by kernel_rfl) ?_; intro Q hQ hP; simp [hC, hY, vv, vb, ib, hcb]; (repeat (first | ((refine heapK_of (hp' := puHp n d g m x0 x1 x2) (ptold_pan (fun k hk => hpL_low (by simp [puL]) hk) (by simp) rfl (by simp) (pu1_bad1 n d g m x0 x1 x2 h0 h1 h2 he)) (by simp [puHp, puL, vb, ib]) (fun k hk => hpL_low (by simp [puL]) hk) trivial ?_); try simp [hC, hY, vv, vb, ib, hcb]))); (first | refine hQ _ _ _ _ (by kernel_rfl) ?_ | refine hP _ _ (by kernel_rfl) (fun _ => ?_)); clear hQ hP Q)
    | refine GW_block ?_
    | refine GW_ret ?_
    | refine GW_skip ?_
    | refine GW_exit ?_
    | refine GW_goto ?_
    | refine GW_label ?_
    | simp only [blockG_exit]
    | (refine GW_cond (by simp; rfl) ?_ ?_ <;> (intro hb; first | (exfalso; exact absurd hb (by decide)) | skip)))
  refine ⟨.inr trivial, ?_⟩
  simp [Tryd.results33, vv]
end Go.Gy
