/-
  Contracts: pull.Square, pull.Beyond.
  Conditions: none.
-/
import Derived.Test.YtggidgaeggekhaaDoorGyU6
namespace Go.Gy
set_option linter.unusedSimpArgs false
set_option linter.unusedVariables false
open Go Go.RowKit Go.Proofs
def ib (n : Int) : Blk := ⟨#[.int .i64 n], 3⟩
def sqHp (x0 x1 x2 : Int) : Hp := hpL G1 [(200, vb x0 x1 x2), (208, ib 0)]
theorem sqHp_rst (x0 x1 x2 : Int) : rst (sqHp x0 x1 x2) [200, 208] = sqHp x0 x1 x2 := hpL_rst G1F (by simp)
theorem sqHp_closed (x0 x1 x2 : Int) (D : Nat → Prop) (k : Nat) (c : Blk) (h : sqHp x0 x1 x2 k = some c) : c.ids D := by
  rcases hpL_mem h with h | h
  · simp at h
    rcases h with ⟨_, rfl⟩ | ⟨_, rfl⟩ <;> simp [vb, ib]
  · exact G1_closed _ _ _ h
theorem sqHp_free (x0 x1 x2 : Int) (x : Nat) (hx : 300 ≤ x) : sqHp x0 x1 x2 x = none := by
  simp [sqHp, show ¬ x = 200 by omega, show ¬ x = 208 by omega, show 100 ≤ x by omega]
theorem sq1_ok (x0 x1 x2 : Int) (h0 : inB x0) (h1 : inB x1) (h2 : inB x2) : Fun Tryd.prog G1 72 [.pointer (some ⟨200, 0, none⟩), .pointer (some ⟨208, 0, none⟩)].toArray (sqHp x0 x1 x2) [200, 208] (.ret (.tuple #[]) [(208, ib (x0 * x0 + x1 * x1 + x2 * x2))]) := by
  refine fun_of (B := 300) G1F (fun k hk => hpL_low (by simp) hk) Tryd.func72 rfl Tryd.call72 ?_ ?_ ?_ (by simp [Tryd.ntmps72]) (by omega) ?_ ?_
  · rw [sqHp_rst]; simp [sqHp, dom]
  · rw [sqHp_rst]; exact sqHp_closed x0 x1 x2 _
  · refine ⟨flatV_ids (by simp), by simp [keys, sqHp, dom], fun k b c e1 e2 => ?_, by simp [ib]⟩
    simp at e1 e2
    rw [e1.2, e2.2]
  · rw [sqHp_rst]; exact sqHp_free x0 x1 x2
  · intro C hC hC0 hY
    rw [sqHp_rst] at hC0 ⊢
    repeat' (first
      | refine GW_seq ?_
      | simp only [List.length_cons, List.length_nil, Nat.reduceAdd, Nat.reduceMul, thenG_normal, thenG_ret, thenG_exit, thenG_goto, thenG_panic, blockG_normal, blockG_ret, blockG_goto, blockG_panic, jumpG_normal, jumpG_ret, jumpG_exit, jumpG_panic]
      | (refine GW_region' [1000069] (by kernel_rfl) ?_; intro Q hQ hP; simp [hC, hY, sqHp, vb, ib]; (repeat (first | ((refine callP_of (psum_ok x0 x1 x2 h0 h1 h2) ?_); try simp [hC, hY, sqHp, vb, ib]))); (first | refine hQ _ _ _ _ ?_ | refine hP _ _ (fun _ => ?_)); clear hQ hP Q)
      | (refine GW_draw' [1000069] follows (by kernel_rfl) (by kernel_rfl) ?_; intro Q hQ hP; simp [hC, hY, sqHp, vb, ib]; (repeat (first | ((refine callP_of (psum_ok x0 x1 x2 h0 h1 h2) ?_); try simp [hC, hY, sqHp, vb, ib]))); (first | refine hQ _ _ _ _ (by kernel_rfl) ?_ | refine hP _ _ (by kernel_rfl) (fun _ => ?_)); clear hQ hP Q)
      | refine GW_block ?_
      | refine GW_ret ?_
      | refine GW_skip ?_
      | refine GW_exit ?_
      | refine GW_goto ?_
      | refine GW_label ?_
      | simp only [blockG_exit]
      | (refine GW_cond (by simp; rfl) ?_ ?_ <;> (intro hb; first | (exfalso; exact absurd hb (by decide)) | skip)))
    refine ⟨.inl rfl, by simp [Tryd.results72], fun k hk => ?_⟩
    first | rfl | simp [updL, ib, sqHp, vb]
theorem sq1_bad (x0 x1 x2 : Int) (h : ¬ (inB x0 ∧ inB x1 ∧ inB x2)) : Fun Tryd.prog G1 72 [.pointer (some ⟨200, 0, none⟩), .pointer (some ⟨208, 0, none⟩)].toArray (sqHp x0 x1 x2) [200, 208] (.pan (erV 2)) := by
  have hp : RetP Tryd.prog G1 69 #[vv x0 x1 x2] (.pan (erV 2)) := by
    by_cases h0 : inB x0
    · by_cases h1 : inB x1
      · by_cases h2 : inB x2
        · exact absurd ⟨h0, h1, h2⟩ h
        · exact psum_bad2 x0 x1 x2 h0 h1 h2
      · exact psum_bad1 x0 x1 x2 h0 h1
    · exact psum_bad0 x0 x1 x2 h0
  refine fun_of (B := 300) G1F (fun k hk => hpL_low (by simp) hk) Tryd.func72 rfl Tryd.call72 ?_ ?_ trivial (by simp [Tryd.ntmps72]) (by omega) ?_ ?_
  · rw [sqHp_rst]; simp [sqHp, dom]
  · rw [sqHp_rst]; exact sqHp_closed x0 x1 x2 _
  · rw [sqHp_rst]; exact sqHp_free x0 x1 x2
  · intro C hC hC0 hY
    rw [sqHp_rst] at hC0 ⊢
    repeat' (first
      | refine GW_seq ?_
      | simp only [List.length_cons, List.length_nil, Nat.reduceAdd, Nat.reduceMul, thenG_normal, thenG_ret, thenG_exit, thenG_goto, thenG_panic, blockG_normal, blockG_ret, blockG_goto, blockG_panic, jumpG_normal, jumpG_ret, jumpG_exit, jumpG_panic]
      | (refine GW_region' [1000069] (by kernel_rfl) ?_; intro Q hQ hP; simp [hC, hY, sqHp, vb, ib]; (repeat (first | ((refine callP_of hp ?_); try simp [hC, hY, sqHp, vb, ib]))); (first | refine hQ _ _ _ _ ?_ | refine hP _ _ (fun _ => ?_)); clear hQ hP Q)
      | (refine GW_draw' [1000069] follows (by kernel_rfl) (by kernel_rfl) ?_; intro Q hQ hP; simp [hC, hY, sqHp, vb, ib]; (repeat (first | ((refine callP_of hp ?_); try simp [hC, hY, sqHp, vb, ib]))); (first | refine hQ _ _ _ _ (by kernel_rfl) ?_ | refine hP _ _ (by kernel_rfl) (fun _ => ?_)); clear hQ hP Q)
      | refine GW_block ?_
      | refine GW_ret ?_
      | refine GW_skip ?_
      | refine GW_exit ?_
      | refine GW_goto ?_
      | refine GW_label ?_
      | simp only [blockG_exit]
      | (refine GW_cond (by simp; rfl) ?_ ?_ <;> (intro hb; first | (exfalso; exact absurd hb (by decide)) | skip)))
    refine ⟨rfl, fun k hk => ?_⟩
    have hk3 : k < 300 := Classical.byContradiction fun h => hk (sqHp_free x0 x1 x2 k (by omega))
    first | rfl | (simp (disch := omega) only [upd_far]; rfl)
theorem psq_ret (x0 x1 x2 : Int) (h0 : inB x0) (h1 : inB x1) (h2 : inB x2) : Ret Tryd.prog G1 34 #[vv x0 x1 x2] (.tuple #[.int .i64 (x0 * x0 + x1 * x1 + x2 * x2), .int .i64 0]) := by
  refine ret_of G1F Tryd.func34 rfl Tryd.call34 (by simp) (by simp [vv]) (by simp [Tryd.ntmps34]) ?_
  intro C hC hC0 hY
  repeat' (first
    | refine GW_seq ?_
    | simp only [List.length_cons, List.length_nil, Nat.reduceAdd, Nat.reduceMul, thenG_normal, thenG_ret, thenG_exit, thenG_goto, thenG_panic, blockG_normal, blockG_ret, blockG_goto, blockG_panic, jumpG_normal, jumpG_ret, jumpG_exit, jumpG_panic]
    | (refine GW_region' [67] (by kernel_rfl) ?_; intro Q hQ hP; simp [hC, hY, vv, ib]; (repeat (first | ((refine heapK_of (hp' := sqHp x0 x1 x2) (ptold_ret (fun k hk => hpL_low (by simp) hk) (by simp) rfl (by simp) (sq1_ok x0 x1 x2 h0 h1 h2)) (by simp [sqHp, vb, ib]) (fun k hk => hpL_low (by simp) hk) trivial ?_); try simp [hC, hY, vv, ib]))); (first | refine hQ _ _ _ _ ?_ | refine hP _ _ (fun _ => ?_)); clear hQ hP Q)
    | (refine GW_draw' [67] follows (by kernel_rfl) (by kernel_rfl) ?_; intro Q hQ hP; simp [hC, hY, vv, ib]; (repeat (first | ((refine heapK_of (hp' := sqHp x0 x1 x2) (ptold_ret (fun k hk => hpL_low (by simp) hk) (by simp) rfl (by simp) (sq1_ok x0 x1 x2 h0 h1 h2)) (by simp [sqHp, vb, ib]) (fun k hk => hpL_low (by simp) hk) trivial ?_); try simp [hC, hY, vv, ib]))); (first | refine hQ _ _ _ _ (by kernel_rfl) ?_ | refine hP _ _ (by kernel_rfl) (fun _ => ?_)); clear hQ hP Q)
    | refine GW_block ?_
    | refine GW_ret ?_
    | refine GW_skip ?_
    | refine GW_exit ?_
    | refine GW_goto ?_
    | refine GW_label ?_
    | simp only [blockG_exit]
    | (refine GW_cond (by simp; rfl) ?_ ?_ <;> (intro hb; first | (exfalso; exact absurd hb (by decide)) | skip)))
  refine ⟨.inr trivial, ?_⟩
  simp [Tryd.results34]
theorem psq_bad (x0 x1 x2 : Int) (h : ¬ (inB x0 ∧ inB x1 ∧ inB x2)) : Ret Tryd.prog G1 34 #[vv x0 x1 x2] (.tuple #[.int .i64 0, .int .i64 2]) := by
  refine ret_of G1F Tryd.func34 rfl Tryd.call34 (by simp) (by simp [vv]) (by simp [Tryd.ntmps34]) ?_
  intro C hC hC0 hY
  repeat' (first
    | refine GW_seq ?_
    | simp only [List.length_cons, List.length_nil, Nat.reduceAdd, Nat.reduceMul, thenG_normal, thenG_ret, thenG_exit, thenG_goto, thenG_panic, blockG_normal, blockG_ret, blockG_goto, blockG_panic, jumpG_normal, jumpG_ret, jumpG_exit, jumpG_panic]
    | (refine GW_region' [67] (by kernel_rfl) ?_; intro Q hQ hP; simp [hC, hY, vv, ib]; (repeat (first | ((refine heapK_of (hp' := sqHp x0 x1 x2) (ptold_pan (fun k hk => hpL_low (by simp) hk) (by simp) rfl (by simp) (sq1_bad x0 x1 x2 h)) (by simp [sqHp, vb, ib]) (fun k hk => hpL_low (by simp) hk) trivial ?_); try simp [hC, hY, vv, ib]))); (first | refine hQ _ _ _ _ ?_ | refine hP _ _ (fun _ => ?_)); clear hQ hP Q)
    | (refine GW_draw' [67] follows (by kernel_rfl) (by kernel_rfl) ?_; intro Q hQ hP; simp [hC, hY, vv, ib]; (repeat (first | ((refine heapK_of (hp' := sqHp x0 x1 x2) (ptold_pan (fun k hk => hpL_low (by simp) hk) (by simp) rfl (by simp) (sq1_bad x0 x1 x2 h)) (by simp [sqHp, vb, ib]) (fun k hk => hpL_low (by simp) hk) trivial ?_); try simp [hC, hY, vv, ib]))); (first | refine hQ _ _ _ _ (by kernel_rfl) ?_ | refine hP _ _ (by kernel_rfl) (fun _ => ?_)); clear hQ hP Q)
    | refine GW_block ?_
    | refine GW_ret ?_
    | refine GW_skip ?_
    | refine GW_exit ?_
    | refine GW_goto ?_
    | refine GW_label ?_
    | simp only [blockG_exit]
    | (refine GW_cond (by simp; rfl) ?_ ?_ <;> (intro hb; first | (exfalso; exact absurd hb (by decide)) | skip)))
  refine ⟨.inr trivial, ?_⟩
  simp [Tryd.results34]
@[simp] theorem psq (x0 x1 x2 : Int) (h0 : inB x0) (h1 : inB x1) (h2 : inB x2) (K : Value → Prop) : callK Tryd.prog G1 34 #[.agg #[.int .i64 x0, .int .i64 x1, .int .i64 x2]] K ↔ K (.tuple #[.int .i64 (x0 * x0 + x1 * x1 + x2 * x2), .int .i64 0]) := callK_iff G1W (by kernel_rfl) (psq_ret x0 x1 x2 h0 h1 h2)
/-! Beyond -/
def byHp (n d g m r : Int) : Hp := hpL G1 [(200, ib n), (208, ib d), (216, ib g), (224, ib m), (232, ib r)]
theorem byHp_rst (n d g m r : Int) : rst (byHp n d g m r) [200, 208, 216, 224, 232] = byHp n d g m r := hpL_rst G1F (by simp)
theorem byHp_closed (n d g m r : Int) (D : Nat → Prop) (k : Nat) (c : Blk) (h : byHp n d g m r k = some c) : c.ids D := by
  rcases hpL_mem h with h | h
  · simp at h
    rcases h with ⟨_, rfl⟩ | ⟨_, rfl⟩ | ⟨_, rfl⟩ | ⟨_, rfl⟩ | ⟨_, rfl⟩ <;> simp [ib]
  · exact G1_closed _ _ _ h
theorem byHp_free (n d g m r : Int) (x : Nat) (hx : 300 ≤ x) : byHp n d g m r x = none := by
  simp [byHp, show ¬ x = 200 by omega, show ¬ x = 208 by omega, show ¬ x = 216 by omega, show ¬ x = 224 by omega, show ¬ x = 232 by omega, show 100 ≤ x by omega]
def byCap : List Value := [.pointer (some ⟨200, 0, none⟩), .pointer (some ⟨208, 0, none⟩), .pointer (some ⟨216, 0, none⟩), .pointer (some ⟨224, 0, none⟩), .pointer (some ⟨232, 0, none⟩)]
theorem by1_ok (n d g m r : Int) (h : chkE n d g m 0 r = 0) : Fun Tryd.prog G1 73 [.pointer (some ⟨200, 0, none⟩), .pointer (some ⟨208, 0, none⟩), .pointer (some ⟨216, 0, none⟩), .pointer (some ⟨224, 0, none⟩), .pointer (some ⟨232, 0, none⟩)].toArray (byHp n d g m r) [200, 208, 216, 224, 232] (.ret (.tuple #[]) []) := by
  have hck := check_ok n d g m 0 r h
  refine fun_of (B := 300) G1F (fun k hk => hpL_low (by simp) hk) Tryd.func73 rfl Tryd.call73 ?_ ?_ ⟨flatV_ids (by simp), by simp [keys], by simp, by simp⟩ (by simp [Tryd.ntmps73]) (by omega) ?_ ?_
  · rw [byHp_rst]; simp [byHp, dom]
  · rw [byHp_rst]; exact byHp_closed n d g m r _
  · rw [byHp_rst]; exact byHp_free n d g m r
  · intro C hC hC0 hY
    rw [byHp_rst] at hC0 ⊢
    repeat' (first
      | refine GW_seq ?_
      | simp only [List.length_cons, List.length_nil, Nat.reduceAdd, Nat.reduceMul, thenG_normal, thenG_ret, thenG_exit, thenG_goto, thenG_panic, blockG_normal, blockG_ret, blockG_goto, blockG_panic, jumpG_normal, jumpG_ret, jumpG_exit, jumpG_panic]
      | (refine GW_region' [74] (by kernel_rfl) ?_; intro Q hQ hP; simp [hC, hY, byHp, ib]; (repeat (first | ((refine heapK_sl hck (by simp) (by simp) (by omega) ?_ ?_; focus (simp; done)); try simp [hC, hY, byHp, ib]))); (first | refine hQ _ _ _ _ ?_ | refine hP _ _ (fun _ => ?_)); clear hQ hP Q)
      | (refine GW_draw' [74] follows (by kernel_rfl) (by kernel_rfl) ?_; intro Q hQ hP; simp [hC, hY, byHp, ib]; (repeat (first | ((refine heapK_sl hck (by simp) (by simp) (by omega) ?_ ?_; focus (simp; done)); try simp [hC, hY, byHp, ib]))); (first | refine hQ _ _ _ _ (by kernel_rfl) ?_ | refine hP _ _ (by kernel_rfl) (fun _ => ?_)); clear hQ hP Q)
      | refine GW_block ?_
      | refine GW_ret ?_
      | refine GW_skip ?_
      | refine GW_exit ?_
      | refine GW_goto ?_
      | refine GW_label ?_
      | simp only [blockG_exit]
      | (refine GW_cond (by simp; rfl) ?_ ?_ <;> (intro hb; first | (exfalso; exact absurd hb (by decide)) | skip)))
    refine ⟨.inl rfl, by simp [Tryd.results73], fun k hk => ?_⟩
    have hk3 : k < 300 := Classical.byContradiction fun h => hk (byHp_free n d g m r k (by omega))
    first | rfl | (simp (disch := omega) only [upd_far]; rfl)
theorem by1_bad (n d g m r : Int) (h : chkE n d g m 0 r ≠ 0) : Fun Tryd.prog G1 73 [.pointer (some ⟨200, 0, none⟩), .pointer (some ⟨208, 0, none⟩), .pointer (some ⟨216, 0, none⟩), .pointer (some ⟨224, 0, none⟩), .pointer (some ⟨232, 0, none⟩)].toArray (byHp n d g m r) [200, 208, 216, 224, 232] (.pan (erV (chkE n d g m 0 r))) := by
  have hck := check_bad n d g m 0 r h
  refine fun_of (B := 300) G1F (fun k hk => hpL_low (by simp) hk) Tryd.func73 rfl Tryd.call73 ?_ ?_ trivial (by simp [Tryd.ntmps73]) (by omega) ?_ ?_
  · rw [byHp_rst]; simp [byHp, dom]
  · rw [byHp_rst]; exact byHp_closed n d g m r _
  · rw [byHp_rst]; exact byHp_free n d g m r
  · intro C hC hC0 hY
    rw [byHp_rst] at hC0 ⊢
    repeat' (first
      | refine GW_seq ?_
      | simp only [List.length_cons, List.length_nil, Nat.reduceAdd, Nat.reduceMul, thenG_normal, thenG_ret, thenG_exit, thenG_goto, thenG_panic, blockG_normal, blockG_ret, blockG_goto, blockG_panic, jumpG_normal, jumpG_ret, jumpG_exit, jumpG_panic]
      | (refine GW_region' [74] (by kernel_rfl) ?_; intro Q hQ hP; simp [hC, hY, byHp, ib]; (repeat (first | ((refine heapK_slp hck (by simp) (by omega) ?_ ?_; focus (simp; done)); try simp [hC, hY, byHp, ib]))); (first | refine hQ _ _ _ _ ?_ | refine hP _ _ (fun _ => ?_)); clear hQ hP Q)
      | (refine GW_draw' [74] follows (by kernel_rfl) (by kernel_rfl) ?_; intro Q hQ hP; simp [hC, hY, byHp, ib]; (repeat (first | ((refine heapK_slp hck (by simp) (by omega) ?_ ?_; focus (simp; done)); try simp [hC, hY, byHp, ib]))); (first | refine hQ _ _ _ _ (by kernel_rfl) ?_ | refine hP _ _ (by kernel_rfl) (fun _ => ?_)); clear hQ hP Q)
      | refine GW_block ?_
      | refine GW_ret ?_
      | refine GW_skip ?_
      | refine GW_exit ?_
      | refine GW_goto ?_
      | refine GW_label ?_
      | simp only [blockG_exit]
      | (refine GW_cond (by simp; rfl) ?_ ?_ <;> (intro hb; first | (exfalso; exact absurd hb (by decide)) | skip)))
    refine ⟨rfl, fun k hk => ?_⟩
    have hk3 : k < 300 := Classical.byContradiction fun h => hk (byHp_free n d g m r k (by omega))
    first | rfl | (simp (disch := omega) only [upd_far]; rfl)
theorem pby_bad (n d g m r : Int) (h : chkE n d g m 0 r ≠ 0) : Ret Tryd.prog G1 36 #[.int .i64 n, .int .i64 d, .int .i64 g, .int .i64 m, .int .i64 r] (.bool false) := by
  refine ret_of G1F Tryd.func36 rfl Tryd.call36 (by simp) (by simp) (by simp [Tryd.ntmps36]) ?_
  intro C hC hC0 hY
  have hcb : (chkE n d g m 0 r != 0) = true := by simpa using h
  repeat' (first
    | refine GW_seq ?_
    | simp only [List.length_cons, List.length_nil, Nat.reduceAdd, Nat.reduceMul, thenG_normal, thenG_ret, thenG_exit, thenG_goto, thenG_panic, blockG_normal, blockG_ret, blockG_goto, blockG_panic, jumpG_normal, jumpG_ret, jumpG_exit, jumpG_panic]
    | (refine GW_region' [67] (by kernel_rfl) ?_; intro Q hQ hP; simp [hC, hY, ib, hcb]; (repeat (first | ((refine heapK_of (hp' := byHp n d g m r) (ptold_pan (fun k hk => hpL_low (by simp) hk) (by simp) rfl (by simp) (by1_bad n d g m r h)) (by simp [byHp, ib]) (fun k hk => hpL_low (by simp) hk) trivial ?_); try simp [hC, hY, ib, hcb]))); (first | refine hQ _ _ _ _ ?_ | refine hP _ _ (fun _ => ?_)); clear hQ hP Q)
    | (refine GW_draw' [67] follows (by kernel_rfl) (by kernel_rfl) ?_; intro Q hQ hP; simp [hC, hY, ib, hcb]; (repeat (first | ((refine heapK_of (hp' := byHp n d g m r) (ptold_pan (fun k hk => hpL_low (by simp) hk) (by simp) rfl (by simp) (by1_bad n d g m r h)) (by simp [byHp, ib]) (fun k hk => hpL_low (by simp) hk) trivial ?_); try simp [hC, hY, ib, hcb]))); (first | refine hQ _ _ _ _ (by kernel_rfl) ?_ | refine hP _ _ (by kernel_rfl) (fun _ => ?_)); clear hQ hP Q)
    | refine GW_block ?_
    | refine GW_ret ?_
    | refine GW_skip ?_
    | refine GW_exit ?_
    | refine GW_goto ?_
    | refine GW_label ?_
    | simp only [blockG_exit]
    | (refine GW_cond (by simp; rfl) ?_ ?_ <;> (intro hb; first | (exfalso; exact absurd hb (by decide)) | skip)))
  refine ⟨.inr trivial, ?_⟩
  simp [Tryd.results36]
theorem pby_ret (n d g m r : Int) (h : PIn n d g m 0 r) : Ret Tryd.prog G1 36 #[.int .i64 n, .int .i64 d, .int .i64 g, .int .i64 m, .int .i64 r] (.bool (decide (2 * n * g * m * (2 * n * g * m) < d * r * (d * r)))) := by
  refine ret_of G1F Tryd.func36 rfl Tryd.call36 rfl (by simp) (by simp [Tryd.ntmps36]) ?_
  intro C hC hC0 hY
  have p1 := h.p1
  have p2 := h.p2
  have p3 := h.p3
  have hr0 := h.r0
  have hr1 := h.r1
  have hd0 := h.d0
  have hd1 := h.d1
  have hdr := absmul (p := 2097152) (q := 13194139533312) (by omega) hd1 (by omega) hr1
  have t1 := times4_fun 2 n g m ⟨⟨by decide, by decide⟩, ⟨by have := h.n0; omega, by have := h.n1; omega⟩, ⟨by have := h.g0; omega, by have := h.g1; omega⟩, ⟨by have := h.m0; omega, by have := h.m1; omega⟩⟩
    ⟨⟨by decide, by decide⟩, ⟨by omega, by omega⟩, ⟨by omega, by omega⟩, ⟨by omega, by omega⟩⟩
  have t2 := times2_fun d r ⟨⟨by omega, by omega⟩, ⟨by omega, by omega⟩⟩ ⟨⟨by omega, by omega⟩, ⟨by omega, by omega⟩⟩
  have sA := wr_sz (z := 2 * n * g * m) ⟨by omega, by omega⟩
  have sB := wr_sz (z := d * r) ⟨by omega, by omega⟩
  have hA := (absmul p3.1 p3.2 p3.1 p3.2)
  have hB := (absmul hdr.1 hdr.2 hdr.1 hdr.2)
  have sA2 := wr_sz (z := 2 * n * g * m * (2 * n * g * m)) ⟨by omega, by omega⟩
  have sB2 := wr_sz (z := d * r * (d * r)) ⟨by omega, by omega⟩
  repeat' (first
    | refine GW_seq ?_
    | simp only [List.length_cons, List.length_nil, Nat.reduceAdd, Nat.reduceMul, thenG_normal, thenG_ret, thenG_exit, thenG_goto, thenG_panic, blockG_normal, blockG_ret, blockG_goto, blockG_panic, jumpG_normal, jumpG_ret, jumpG_exit, jumpG_panic]
    | (refine GW_region' [67,77] (by kernel_rfl) ?_; intro Q hQ hP; simp [hC, hY, ib, sA, sB, sA2, sB2]; (repeat (first | ((refine heapK_of (hp' := byHp n d g m r) (ptold_ret (fun k hk => hpL_low (by simp) hk) (by simp) rfl (by simp) (by1_ok n d g m r (chk_in.2 h))) (by simp [byHp, ib]) (fun k hk => hpL_low (by simp) hk) trivial ?_); try simp [hC, hY, ib, sA, sB, sA2, sB2]) | ((refine heapK_sl t1 (by simp) (by simp) (by omega) ?_ ?_; focus (simp; done)); try simp [hC, hY, ib, sA, sB, sA2, sB2]) | ((refine heapK_sl t2 (by simp) (by simp) (by omega) ?_ ?_; focus (simp; done)); try simp [hC, hY, ib, sA, sB, sA2, sB2]))); (first | refine hQ _ _ _ _ ?_ | refine hP _ _ (fun _ => ?_)); clear hQ hP Q)
    | (refine GW_draw' [67,77] follows (by kernel_rfl) (by kernel_rfl) ?_; intro Q hQ hP; simp [hC, hY, ib, sA, sB, sA2, sB2]; (repeat (first | ((refine heapK_of (hp' := byHp n d g m r) (ptold_ret (fun k hk => hpL_low (by simp) hk) (by simp) rfl (by simp) (by1_ok n d g m r (chk_in.2 h))) (by simp [byHp, ib]) (fun k hk => hpL_low (by simp) hk) trivial ?_); try simp [hC, hY, ib, sA, sB, sA2, sB2]) | ((refine heapK_sl t1 (by simp) (by simp) (by omega) ?_ ?_; focus (simp; done)); try simp [hC, hY, ib, sA, sB, sA2, sB2]) | ((refine heapK_sl t2 (by simp) (by simp) (by omega) ?_ ?_; focus (simp; done)); try simp [hC, hY, ib, sA, sB, sA2, sB2]))); (first | refine hQ _ _ _ _ (by kernel_rfl) ?_ | refine hP _ _ (by kernel_rfl) (fun _ => ?_)); clear hQ hP Q)
    | refine GW_block ?_
    | refine GW_ret ?_
    | refine GW_skip ?_
    | refine GW_exit ?_
    | refine GW_goto ?_
    | refine GW_label ?_
    | simp only [blockG_exit]
    | (refine GW_cond (by simp; rfl) ?_ ?_ <;> (intro hb; first | (exfalso; exact absurd hb (by decide)) | skip)))
  refine ⟨.inr trivial, ?_⟩
  simp [Tryd.results36]
  generalize 2 * n * g * m * (2 * n * g * m) = A
  generalize d * r * (d * r) = B
  unfold cmpI
  (repeat' split) <;> omega
end Go.Gy
