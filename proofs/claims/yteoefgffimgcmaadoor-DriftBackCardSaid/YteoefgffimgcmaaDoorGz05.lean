/-
  Lemmas of this claim, in their order (GyRC, GyRF, GyQB, GyDB, GyDC, GyWA, GyWB, GyLB, GyWC, GyWD, GyWE, GyWF).
  Conditions: those of each theorem.
-/
import Derived.Test.YteoefgffimgcmaaDoorGz04
namespace Go.Gy
set_option linter.unusedSimpArgs false
set_option linter.unusedVariables false
open Go Go.RowKit Go.Proofs
def plHp3 (a b : Int) (i : Nat) (rest : List Value) : Hp := hpL G0 [(200, wb a), (208, wb b), (216, wb 0), (224, wb 0), (240, ⟨(lc b (i + 1) ++ rest).toArray, .ty 48⟩)]
def plTs3 (i cap : Nat) : Nat → Value := tsL [(2, .pointer (some ⟨200, 0, none⟩)), (3, .pointer (some ⟨208, 0, none⟩)), (4, .pointer (some ⟨216, 0, none⟩)), (5, .pointer (some ⟨224, 0, none⟩)), (6, .slice (some ⟨240, 0, none⟩) (i + 1) cap)]
/-- A slice of the doublings: its capacity, what lies behind its length. -/
def plS (b : Int) (i cap : Nat) (rest : List Value) : Prop := i ≤ 255 ∧ i + 1 ≤ cap ∧ (lc b (i + 1) ++ rest).length = 4 * cap ∧ ∀ x ∈ rest, flatF x = true
/-- At the head of the first loop. -/
def plI (a b : Int) (N m : Nat) (s : GS) : Prop := ∃ i cap rest, i + m = N ∧ s = ⟨plTs3 i cap, plHp3 a b i rest, 256, 0⟩ ∧ plS b i cap rest ∧ (0 < i → b * 2 ^ i ≤ a)
/-- Behind the first loop. -/
def plJ (C : Ctx) (a b : Int) (s : GS) : Prop := ∃ i cap rest, Weak C s ⟨plTs3 i cap, plHp3 a b i rest, 256, 0⟩ ∧ plS b i cap rest ∧ (0 < i → b * 2 ^ i ≤ a) ∧ a < b * 2 ^ (i + 1)
/-- The second loop, j rounds behind. -/
def plSt2 (a b : Int) (i cap : Nat) (rest : List Value) (j : Nat) : GS :=
  ⟨tsL [(2, .pointer (some ⟨200, 0, none⟩)), (3, .pointer (some ⟨208, 0, none⟩)), (4, .pointer (some ⟨216, 0, none⟩)), (5, .pointer (some ⟨224, 0, none⟩)), (6, .slice (some ⟨240, 0, none⟩) (i + 1) cap), (9, .pointer (some ⟨256, 0, none⟩)), (10, .int .i64 (i - j))],
   hpL G0 [(200, wb (a % (b * 2 ^ (i + 1 - j)))), (208, wb b), (216, wb 0), (224, wb 0), (240, ⟨(lc b (i + 1) ++ rest).toArray, .ty 48⟩), (256, wb (a / (b * 2 ^ (i + 1 - j))))], 400, 0⟩
theorem dbl_bd {b : Int} (hb0 : 0 < b) (i : Nat) (h : b * 2 ^ i < 57896044618658097711785492504343953926634992332820282019728792003956564819968) : i < 255 := by
  refine Classical.byContradiction fun hc => ?_
  have h1 : (2 : Int) ^ 255 ≤ 2 ^ i := by exact_mod_cast Nat.pow_le_pow_right (by omega) (by omega : 255 ≤ i)
  have h2 : (1 : Int) * 2 ^ i ≤ b * 2 ^ i := Int.mul_le_mul_of_nonneg_right (by omega) (Int.le_of_lt (pow_pos2 i))
  have h3 : (2 : Int) ^ 255 = 57896044618658097711785492504343953926634992332820282019728792003956564819968 := rfl
  omega
theorem dbl_succ (b : Int) (i : Nat) : b * 2 ^ (i + 1) = b * 2 ^ i + b * 2 ^ i := by rw [Int.pow_succ, ← Int.mul_assoc, Int.mul_comm, Int.two_mul]
theorem ng_small {z : Int} (h0 : 0 ≤ z) (h1 : z < 57896044618658097711785492504343953926634992332820282019728792003956564819968) : ng z = false := by
  rw [ng_sz, sz_pos h0 h1]; simp; exact h0
theorem ng_large {z : Int} (h0 : 57896044618658097711785492504343953926634992332820282019728792003956564819968 ≤ z) (h1 : z < 115792089237316195423570985008687907853269984665640564039457584007913129639936) : ng z = true := by
  rw [ng_sz]; simp
  unfold sz; rw [Int.bmod_def]; split <;> omega
theorem flat_z4 {x : Value} (h : x ∈ (Value.agg #[.int .u64 0, .int .u64 0, .int .u64 0, .int .u64 0]).cells) : flatF x = true := by
  simp [Value.cells] at h; subst h; rfl
theorem lcr_ids {b : Int} {k : Nat} {rest : List Value} {T : TypeId} {D : Nat → Prop} (h : ∀ x ∈ rest, flatF x = true) : (Blk.mk (lc b k ++ rest).toArray T).ids D := fun x hx => by
  simp only [List.mem_toArray, List.mem_append] at hx
  rcases hx with hx | hx
  · exact flatF_ids (lc_flat b k x hx)
  · exact flatF_ids (h x hx)
theorem emod_le {a m : Int} (h0 : 0 ≤ a) (hm : 0 < m) : a % m ≤ a := by
  have h1 := Int.mul_ediv_add_emod a m
  have h2 := Int.ediv_nonneg h0 (Int.le_of_lt hm)
  have h3 := Int.mul_nonneg (Int.le_of_lt hm) h2
  omega
theorem lc_take' (b : Int) (i : Nat) (rest : List Value) : (lc b (i + 1) ++ rest).take ((i + 1) * 4) = lc b (i + 1) := by
  rw [show (i + 1) * 4 = (lc b (i + 1)).length by simp; omega, List.take_left]
theorem lc_room {b Y : Int} (i : Nat) (rest : List Value) (h : b * 2 ^ (i + 1) = Y) : (lc b (i + 1) ++ rest).take ((i + 1) * 4) ++ wl Y ++ (lc b (i + 1) ++ rest).drop ((i + 1) * 4 + (wl Y).length) = lc b (i + 2) ++ rest.drop 4 := by
  rw [lc_take', wl_len, show (i + 1) * 4 + 4 = (lc b (i + 1)).length + 4 by simp; omega, List.drop_append]
  simp only [Nat.add_sub_cancel_left]
  rw [List.drop_eq_nil_of_le (by omega), List.nil_append, ← h]
  rfl
theorem lc_grow {b Y : Int} (i : Nat) (rest tl : List Value) (h : b * 2 ^ (i + 1) = Y) : (lc b (i + 1) ++ rest).take ((i + 1) * 4) ++ wl Y ++ tl = lc b (i + 2) ++ tl := by
  rw [lc_take', ← h]; rfl
theorem lcr_rn {b : Int} {k : Nat} {rest : List Value} {T : TypeId} {ρ : Nat → Nat} (h : ∀ x ∈ rest, flatF x = true) : (Blk.mk (lc b k ++ rest).toArray T).rn ρ = ⟨(lc b k ++ rest).toArray, T⟩ := by
  unfold Blk.rn
  rw [map_eq_self]
  intro x hx
  simp only [List.mem_toArray, List.mem_append] at hx
  rcases hx with hx | hx
  · exact flatF_ren (lc_flat b k x hx)
  · exact flatF_ren (h x hx)
theorem w4_rn (a b c d : Int) (T : TypeId) (ρ : Nat → Nat) : (Blk.mk #[.int .u64 a, .int .u64 b, .int .u64 c, .int .u64 d] T).rn ρ = ⟨#[.int .u64 a, .int .u64 b, .int .u64 c, .int .u64 d], T⟩ := by simp [Blk.rn, renF, ren0]
set_option maxRecDepth 8000 in
set_option maxHeartbeats 1000000 in
theorem plain_t (a b : Int) (ha : wr a) (h0 : 0 ≤ a) (hb : wr b) (hb0 : 0 < b) : Ret Tryd.prog G0 145 #[wd a, wd b] (.tuple #[wd (a / b), wd (a % b)]) := by
  refine ret_of G0F Tryd.func145 rfl Tryd.call145 (by simp) (by simp) (by simp [Tryd.ntmps145]) ?_
  intro C hC hC0 hY
  repeat' (first | refine GW_seq ?_ | simp only [List.length_cons, List.length_nil, Nat.reduceAdd, Nat.reduceMul, wN] | ((first | refine GW_region' [] (by kernel_rfl) ?_ | refine GW_draw' [] follows (by kernel_rfl) (by kernel_rfl) ?_); intro Q hQ hP; simp [hC, hY]; (first | refine hQ _ _ _ _ ?_ | refine hQ _ _ _ _ (by kernel_rfl) ?_ | refine hP _ _ (fun _ => ?_) | refine hP _ _ (by kernel_rfl) (fun _ => ?_)); clear hQ hP Q) | refine GW_block ?_ | refine GW_ret ?_ | refine GW_skip ?_ | refine GW_exit ?_ | refine GW_goto ?_ | refine GW_label ?_ | simp only [blockG_exit] | (refine GW_cond (by simp; rfl) ?_ ?_ <;> (intro hb; first | (exfalso; exact absurd hb (by decide)) | skip)))
  refine GW_viaB (plJ C a b) ?_ ?_
  · refine GW_loopR (plI a b 255) (m0 := 255) (s0 := ⟨plTs3 0 1, plHp3 a b 0 [], 256, 0⟩) ?_ ⟨0, 1, [], by omega, rfl, ⟨by omega, by omega, rfl, by simp⟩, by omega⟩ ?_
    · refine weakL _ 256 hC G0F (m0 := []) hC0 (by omega) ?_ ?_ ?_
      · simp [idsV, idsA, idsF, ids0, dom]
      · simp [ids_lit, idsF, ids0, wb, lc, wl, wi_zero]
      · simp
    · rintro m _ ⟨i, cap, rest, him, rfl, ⟨hi255, hcap, hlen, hrf⟩, hle⟩
      have bi : Int.bmod (i : Int) 18446744073709551616 = i := bm (by omega) (by omega)
      have fit : i * 4 + 4 ≤ 4 * (i + 1) + rest.length := by omega
      have rd : List.take 4 (List.drop (i * 4) (lc b (i + 1) ++ rest)) = [.int .u64 (wi (b * 2 ^ i) 0), .int .u64 (wi (b * 2 ^ i) 1), .int .u64 (wi (b * 2 ^ i) 2), .int .u64 (wi (b * 2 ^ i) 3)] := by
        rw [Nat.mul_comm]; exact lc_take b (i + 1) i rest (by omega)
      have i0 : (0 : Int) ≤ i := by omega
      have i1 : (i : Int) < i + 1 := by omega
      have hau := ha.2
      have hbu := hb.2
      have hX0 : 0 < b * 2 ^ i := Int.mul_pos hb0 (pow_pos2 i)
      have hX1 : b * 2 ^ i < 57896044618658097711785492504343953926634992332820282019728792003956564819968 := by
        by_cases hi0 : i = 0
        · subst hi0; simpa using hbu
        · exact Int.lt_of_le_of_lt (hle (by omega)) hau
      have sza : sz a = a := wr_sz ha
      have hd := dbl_succ b i
      have n1 : ng (b * 2 ^ i) = false := ng_small (Int.le_of_lt hX0) hX1
      have hi254 := dbl_bd hb0 i hX1
      generalize hX : b * 2 ^ i = X at *
      by_cases hov : X + X < 57896044618658097711785492504343953926634992332820282019728792003956564819968
      · have n2 : ng (X + X) = false := ng_small (by omega) hov
        have szd : sz (X + X) = X + X := sz_pos (by omega) hov
        by_cases hle2 : X + X ≤ a
        · have hcmp : ¬ 0 < cmpI (sz (X + X)) (sz a) := by rw [szd, sza]; unfold cmpI; split <;> (try split) <;> omega
          unfold plTs3 plHp3
          repeat' (first | refine GW_seq ?_ | simp only [List.length_cons, List.length_nil, Nat.reduceAdd, Nat.reduceMul, wN] | ((first | refine GW_region' [] (by kernel_rfl) ?_ | refine GW_draw' [] follows (by kernel_rfl) (by kernel_rfl) ?_); intro Q hQ hP; simp [hC, hY, wb, bi, fit, rd, i0, i1, n1, n2, hcmp]; (first | refine hQ _ _ _ _ ?_ | refine hQ _ _ _ _ (by kernel_rfl) ?_ | refine hP _ _ (fun _ => ?_) | refine hP _ _ (by kernel_rfl) (fun _ => ?_)); clear hQ hP Q) | refine GW_block ?_ | refine GW_ret ?_ | refine GW_skip ?_ | refine GW_exit ?_ | refine GW_goto ?_ | refine GW_label ?_ | simp only [blockG_exit] | (refine GW_cond (by simp; rfl) ?_ ?_ <;> (intro hb; first | (exfalso; exact absurd hb (by decide)) | skip)))
          refine GW_app 3 rfl [] rfl (by kernel_rfl) ?_
          intro q hq
          simp [hC, hY]
          refine appX_mk (c := lc b (i + 1) ++ rest) (c2 := wl (X + X)) (k := 240) (j := 480) (m := 1) (m' := 1) (sl := i + 1) (cap := cap) (e := 48) (T2 := .ty 48) (sz := 4) (by' := 32) (z := .agg #[.int .u64 0, .int .u64 0, .int .u64 0, .int .u64 0]) rfl (by simp) (by simp) (by simp) (by kernel_rfl) (by simp) (by omega) (by simp) ?_ (by simp) (by simp [wl]) ?_ ?_ ?_ ?_ ?_ ?_ ?_ ?_ ?_ ?_
          · exact fun x hx => (List.mem_append.1 hx).elim (lc_flat b _ x) (hrf x)
          · simp [wl]
          · simp [wl, Value.oneCell']
          · exact fun q x hx => flat_z4 (zc_mem hx)
          · simp
          · rw [hlen]; omega
          · exact hcap
          · unfold maxLen; omega
          · omega
          · intro hr
            rw [lc_room i rest hd]
            simp [appC, putT]
            refine hq _ _ _ _ ?_
            simp only [blockG_normal, thenG_normal]
            refine ⟨_, _, m - 1, weakRL (fun k => k) _ 256 hC G0F (m0 := []) hC0 (by omega) ?_ ?_ ?_ ?_ ?_, ⟨i + 1, cap, rest.drop 4, by omega, rfl, ⟨by omega, hr, ?_, fun x hx => hrf x (List.mem_of_mem_drop hx)⟩, fun _ => by rw [hd]; exact hle2⟩, by omega⟩
            · simp [dom, junk, ren, renA, renF, ren0]
            · simp [w4_rn, lcr_rn (fun x hx => hrf x (List.mem_of_mem_drop hx) : ∀ x ∈ rest.drop 4, flatF x = true), lcr_ids (fun x hx => hrf x (List.mem_of_mem_drop hx) : ∀ x ∈ rest.drop 4, flatF x = true), wb]
            · simp
            · exact fun k _ => rfl
            · simp
            · simp at hlen ⊢; omega
          · intro hr cap' hc'
            rw [lc_grow i rest _ hd]
            have hzl : (Builtin.zeroCells (Value.agg #[.int .u64 0, .int .u64 0, .int .u64 0, .int .u64 0]).cells (cap' - (i + 1 + 1))).toList.length = (cap' - (i + 1 + 1)) * 4 := by simp [zc_size, Value.cells]
            have hzf : ∀ x ∈ (Builtin.zeroCells (Value.agg #[.int .u64 0, .int .u64 0, .int .u64 0, .int .u64 0]).cells (cap' - (i + 1 + 1))).toList, flatF x = true := fun x hx => flat_z4 (zc_mem (by simpa using hx))
            generalize (Builtin.zeroCells (Value.agg #[.int .u64 0, .int .u64 0, .int .u64 0, .int .u64 0]).cells (cap' - (i + 1 + 1))).toList = tl at *
            simp [appC, putT]
            refine hq _ _ _ _ ?_
            simp only [blockG_normal, thenG_normal]
            refine ⟨_, _, m - 1, weakRL (fun k => if k = 240 then 488 else k) _ 256 hC G0F (m0 := []) hC0 (by omega) ?_ ?_ ?_ ?_ ?_, ⟨i + 1, cap', tl, by omega, rfl, ⟨by omega, hc', ?_, hzf⟩, fun _ => by rw [hd]; exact hle2⟩, by omega⟩
            · simp [dom, junk, ren, renA, renF, ren0]
            · simp [w4_rn, lcr_rn hzf, lcr_ids hzf, wb]
            · simp
            · intro k hk; simp; omega
            · simp
            · simp [hzl]; omega
        · have hcmp : 0 < cmpI (sz (X + X)) (sz a) := by rw [szd, sza]; unfold cmpI; split <;> (try split) <;> omega
          unfold plTs3 plHp3
          repeat' (first | refine GW_seq ?_ | simp only [List.length_cons, List.length_nil, Nat.reduceAdd, Nat.reduceMul, wN] | ((first | refine GW_region' [] (by kernel_rfl) ?_ | refine GW_draw' [] follows (by kernel_rfl) (by kernel_rfl) ?_); intro Q hQ hP; simp [hC, hY, wb, bi, fit, rd, i0, i1, n1, n2, hcmp]; (first | refine hQ _ _ _ _ ?_ | refine hQ _ _ _ _ (by kernel_rfl) ?_ | refine hP _ _ (fun _ => ?_) | refine hP _ _ (by kernel_rfl) (fun _ => ?_)); clear hQ hP Q) | refine GW_block ?_ | refine GW_ret ?_ | refine GW_skip ?_ | refine GW_exit ?_ | refine GW_goto ?_ | refine GW_label ?_ | simp only [blockG_exit] | (refine GW_cond (by simp; rfl) ?_ ?_ <;> (intro hb; first | (exfalso; exact absurd hb (by decide)) | skip)))
          rw [if_neg (by decide), if_pos trivial, onlyN_normal]
          refine ⟨i, cap, rest, ?_, ⟨hi255, hcap, hlen, hrf⟩, by rw [hX]; exact hle, by rw [hd]; omega⟩
          refine weakL _ 256 hC G0F (m0 := []) hC0 (by omega) ?_ ?_ ?_
          · simp [dom]
          · simp [wb, lcr_ids hrf]
          · simp
      · have n2 : ng (X + X) = true := ng_large (by omega) (by omega)
        unfold plTs3 plHp3
        repeat' (first | refine GW_seq ?_ | simp only [List.length_cons, List.length_nil, Nat.reduceAdd, Nat.reduceMul, wN] | ((first | refine GW_region' [] (by kernel_rfl) ?_ | refine GW_draw' [] follows (by kernel_rfl) (by kernel_rfl) ?_); intro Q hQ hP; simp [hC, hY, bi, fit, rd, i0, i1, n1, n2]; (first | refine hQ _ _ _ _ ?_ | refine hQ _ _ _ _ (by kernel_rfl) ?_ | refine hP _ _ (fun _ => ?_) | refine hP _ _ (by kernel_rfl) (fun _ => ?_)); clear hQ hP Q) | refine GW_block ?_ | refine GW_ret ?_ | refine GW_skip ?_ | refine GW_exit ?_ | refine GW_goto ?_ | refine GW_label ?_ | simp only [blockG_exit] | (refine GW_cond (by simp; rfl) ?_ ?_ <;> (intro hb; first | (exfalso; exact absurd hb (by decide)) | skip)))
        rw [if_neg (by decide), if_pos trivial, onlyN_normal]
        refine ⟨i, cap, rest, ?_, ⟨hi255, hcap, hlen, hrf⟩, by rw [hX]; exact hle, by rw [hd]; omega⟩
        refine weakL _ 256 hC G0F (m0 := []) hC0 (by omega) ?_ ?_ ?_
        · simp [dom]
        · simp [wb, lcr_ids hrf]
        · simp
  · rintro s' ⟨i, cap, rest, hw, ⟨hi255, hcap, hlen, hrf⟩, hle, hlt⟩
    refine GW_weak hw ?_
    clear hw
    have bi : Int.bmod (i : Int) 18446744073709551616 = i := bm (by omega) (by omega)
    have hau := ha.2
    have hbu := hb.2
    have sza : sz a = a := wr_sz ha
    have hlt0 := Int.emod_eq_of_lt h0 hlt
    have hlt1 := Int.ediv_eq_zero_of_lt h0 hlt
    unfold plTs3 plHp3
    repeat' (first | refine GW_seq ?_ | simp only [List.length_cons, List.length_nil, Nat.reduceAdd, Nat.reduceMul, wN] | ((first | refine GW_region' [] (by kernel_rfl) ?_ | refine GW_draw' [] follows (by kernel_rfl) (by kernel_rfl) ?_); intro Q hQ hP; simp [hC, hY, wb, bi]; (first | refine hQ _ _ _ _ ?_ | refine hQ _ _ _ _ (by kernel_rfl) ?_ | refine hP _ _ (fun _ => ?_) | refine hP _ _ (by kernel_rfl) (fun _ => ?_)); clear hQ hP Q) | refine GW_block ?_ | refine GW_ret ?_ | refine GW_skip ?_ | refine GW_exit ?_ | refine GW_goto ?_ | refine GW_label ?_ | simp only [blockG_exit] | (refine GW_cond (by simp; rfl) ?_ ?_ <;> (intro hb; first | (exfalso; exact absurd hb (by decide)) | skip)))
    refine GW_for (i + 1) (plSt2 a b i cap rest) ?_ ?_ ?_
    · refine weakL _ 400 hC G0F (m0 := []) hC0 (by omega) ?_ ?_ ?_
      · simp [dom]
      · simp [wb, lcr_ids hrf, hlt0, hlt1, wi_zero]
      · simp
    · intro j hj
      obtain ⟨n, hn⟩ : ∃ n : Nat, n + j = i := ⟨i - j, by omega⟩
      have e1 : i + 1 - j = n + 1 := by omega
      have e2 : i + 1 - (j + 1) = n := by omega
      have e3 : (i : Int) - (j : Int) = n := by omega
      have e4 : Int.bmod ((n : Int) - 1) 18446744073709551616 = (i : Int) - ((j + 1 : Nat) : Int) := by rw [bm (by omega) (by omega)]; omega
      have hX0 : 0 < b * 2 ^ n := Int.mul_pos hb0 (pow_pos2 n)
      have hX1 : b * 2 ^ n < 57896044618658097711785492504343953926634992332820282019728792003956564819968 := by
        by_cases hi0 : i = 0
        · obtain rfl : n = 0 := by omega
          simpa using hbu
        · have h2 : (2 : Int) ^ n ≤ 2 ^ i := by exact_mod_cast Nat.pow_le_pow_right (by omega) (by omega : n ≤ i)
          exact Int.lt_of_le_of_lt (Int.le_trans (Int.mul_le_mul_of_nonneg_left h2 (Int.le_of_lt hb0)) (hle (by omega))) hau
      have fit : n * 4 + 4 ≤ 4 * (i + 1) + rest.length := by omega
      have rd : List.take 4 (List.drop (n * 4) (lc b (i + 1) ++ rest)) = [.int .u64 (wi (b * 2 ^ n) 0), .int .u64 (wi (b * 2 ^ n) 1), .int .u64 (wi (b * 2 ^ n) 2), .int .u64 (wi (b * 2 ^ n) 3)] := by
        rw [Nat.mul_comm]; exact lc_take b (i + 1) n rest (by omega)
      have i0 : (0 : Int) ≤ n := by omega
      have i1 : (n : Int) < i + 1 := by omega
      have hm0 := Int.emod_nonneg a (show b * 2 ^ (n + 1) ≠ 0 by have := Int.mul_pos hb0 (pow_pos2 (n + 1)); omega)
      have hm1 : a % (b * 2 ^ (n + 1)) ≤ a := emod_le h0 (Int.mul_pos hb0 (pow_pos2 (n + 1)))
      have hh := halve (a := a) hb0 n
      unfold plSt2
      rw [e1, e2, e3]
      have szX : sz (b * 2 ^ n) = b * 2 ^ n := sz_pos (Int.le_of_lt hX0) hX1
      have szR : sz (a % (b * 2 ^ (n + 1))) = a % (b * 2 ^ (n + 1)) := sz_pos hm0 (Int.lt_of_le_of_lt hm1 hau)
      rcases hh with ⟨g1, g2, g3⟩ | ⟨g1, g2, g3⟩
      · rw [g2, g3, Int.two_mul]
        have hcmp : ¬ cmpI (sz (b * 2 ^ n)) (sz (a % (b * 2 ^ (n + 1)))) ≤ 0 := by rw [szX, szR]; unfold cmpI; split <;> (try split) <;> omega
        clear g1 g2 g3 hm0 hm1 szX szR hlt0 hlt1
        generalize a % (b * 2 ^ (n + 1)) = R at *
        generalize a / (b * 2 ^ (n + 1)) = q at *
        generalize b * 2 ^ n = X at *
        repeat' (first | refine GW_seq ?_ | simp only [List.length_cons, List.length_nil, Nat.reduceAdd, Nat.reduceMul, wN] | ((first | refine GW_region' [] (by kernel_rfl) ?_ | refine GW_draw' [] follows (by kernel_rfl) (by kernel_rfl) ?_); intro Q hQ hP; simp [hC, hY, wb, bi, fit, rd, i0, i1, hcmp, e4]; (first | refine hQ _ _ _ _ ?_ | refine hQ _ _ _ _ (by kernel_rfl) ?_ | refine hP _ _ (fun _ => ?_) | refine hP _ _ (by kernel_rfl) (fun _ => ?_)); clear hQ hP Q) | refine GW_block ?_ | refine GW_ret ?_ | refine GW_skip ?_ | refine GW_exit ?_ | refine GW_goto ?_ | refine GW_label ?_ | simp only [blockG_exit] | (refine GW_cond (by simp; rfl) ?_ ?_ <;> (intro hb; first | (exfalso; exact absurd hb (by decide)) | skip)))
        refine weakL _ 400 hC G0F (m0 := []) hC0 (by omega) ?_ ?_ ?_
        · simp [dom]
        · simp [wb, lcr_ids hrf]
        · simp
      · rw [g2, g3, Int.two_mul]
        have hcmp : cmpI (sz (b * 2 ^ n)) (sz (a % (b * 2 ^ (n + 1)))) ≤ 0 := by rw [szX, szR]; unfold cmpI; split <;> (try split) <;> omega
        clear g1 g2 g3 hm0 hm1 szX szR hlt0 hlt1
        generalize a % (b * 2 ^ (n + 1)) = R at *
        generalize a / (b * 2 ^ (n + 1)) = q at *
        generalize b * 2 ^ n = X at *
        repeat' (first | refine GW_seq ?_ | simp only [List.length_cons, List.length_nil, Nat.reduceAdd, Nat.reduceMul, wN] | ((first | refine GW_region' [] (by kernel_rfl) ?_ | refine GW_draw' [] follows (by kernel_rfl) (by kernel_rfl) ?_); intro Q hQ hP; simp [hC, hY, wb, bi, fit, rd, i0, i1, hcmp, e4]; (first | refine hQ _ _ _ _ ?_ | refine hQ _ _ _ _ (by kernel_rfl) ?_ | refine hP _ _ (fun _ => ?_) | refine hP _ _ (by kernel_rfl) (fun _ => ?_)); clear hQ hP Q) | refine GW_block ?_ | refine GW_ret ?_ | refine GW_skip ?_ | refine GW_exit ?_ | refine GW_goto ?_ | refine GW_label ?_ | simp only [blockG_exit] | (refine GW_cond (by simp; rfl) ?_ ?_ <;> (intro hb; first | (exfalso; exact absurd hb (by decide)) | skip)))
        refine weakL _ 400 hC G0F (m0 := []) hC0 (by omega) ?_ ?_ ?_
        · simp [dom]
        · simp [wb, lcr_ids hrf]
        · simp
    · have e1 : i + 1 - (i + 1) = 0 := by omega
      have e3 : ¬ (0 : Int) ≤ (i : Int) - ((i + 1 : Nat) : Int) := by omega
      unfold plSt2
      rw [e1, Int.pow_zero, Int.mul_one]
      generalize (i : Int) - ((i + 1 : Nat) : Int) = z at *
      repeat' (first | refine GW_seq ?_ | simp only [List.length_cons, List.length_nil, Nat.reduceAdd, Nat.reduceMul, wN] | ((first | refine GW_region' [] (by kernel_rfl) ?_ | refine GW_draw' [] follows (by kernel_rfl) (by kernel_rfl) ?_); intro Q hQ hP; simp [hC, hY, wb, e3]; (first | refine hQ _ _ _ _ ?_ | refine hQ _ _ _ _ (by kernel_rfl) ?_ | refine hP _ _ (fun _ => ?_) | refine hP _ _ (by kernel_rfl) (fun _ => ?_)); clear hQ hP Q) | refine GW_block ?_ | refine GW_ret ?_ | refine GW_skip ?_ | refine GW_exit ?_ | refine GW_goto ?_ | refine GW_label ?_ | simp only [blockG_exit] | (refine GW_cond (by simp; rfl) ?_ ?_ <;> (intro hb; first | (exfalso; exact absurd hb (by decide)) | skip)))
      refine ⟨.inr trivial, ?_⟩
      simp [Tryd.results145]
end Go.Gy
namespace Go.Gy
set_option linter.unusedSimpArgs false
set_option linter.unusedVariables false
open Go Go.RowKit Go.Proofs
@[simp] theorem r3plain (a b : Int) (ha : wr a) (h0 : 0 ≤ a) (hB : wr b) (hb0 : 0 < b) (K : Value → Prop) : callK Tryd.prog G0 145 #[Value.agg #[.int .u64 (wi (a) 0), .int .u64 (wi (a) 1), .int .u64 (wi (a) 2), .int .u64 (wi (a) 3)], Value.agg #[.int .u64 (wi (b) 0), .int .u64 (wi (b) 1), .int .u64 (wi (b) 2), .int .u64 (wi (b) 3)]] K ↔ K (.tuple #[wd (a / b), wd (a % b)]) := callK_iff G0W (by kernel_rfl) (plain_t a b ha h0 hB hb0)
theorem above_ret (a b : Int) (ha : wr a) (h0 : 0 ≤ a) (hB : wr b) (hb0 : 0 < b) : Ret Tryd.prog G0 127 #[wd a, wd b] (.tuple #[wd (a / b), wd (a % b)]) := by
  refine ret_of G0F Tryd.func127 rfl Tryd.call127 (by simp) (by simp) (by simp [Tryd.ntmps127]) ?_
  intro C hC hC0 hY
  have s1 : 0 ≤ cmpI (sz a) 0 := by rw [wr_sz ha]; unfold cmpI; split <;> (try split) <;> omega
  repeat' (first | refine GW_seq ?_ | simp only [List.length_cons, List.length_nil, Nat.reduceAdd, Nat.reduceMul, wN] | ((first | refine GW_region' [] (by kernel_rfl) ?_ | refine GW_draw' [] follows (by kernel_rfl) (by kernel_rfl) ?_); intro Q hQ hP; simp [hC, hY, s1, ha, h0, hB, hb0]; (first | refine hQ _ _ _ _ ?_ | refine hQ _ _ _ _ (by kernel_rfl) ?_ | refine hP _ _ (fun _ => ?_) | refine hP _ _ (by kernel_rfl) (fun _ => ?_)); clear hQ hP Q) | refine GW_block ?_ | refine GW_ret ?_ | refine GW_skip ?_ | refine GW_exit ?_ | refine GW_goto ?_ | refine GW_label ?_ | simp only [blockG_exit] | (refine GW_cond (by simp; rfl) ?_ ?_ <;> (intro hb; first | (exfalso; exact absurd hb (by decide)) | skip)))
  refine ⟨.inr trivial, ?_⟩
  simp [Tryd.results127]
@[simp] theorem r3above (a b : Int) (ha : wr a) (h0 : 0 ≤ a) (hB : wr b) (hb0 : 0 < b) (K : Value → Prop) : callK Tryd.prog G0 127 #[Value.agg #[.int .u64 (wi (a) 0), .int .u64 (wi (a) 1), .int .u64 (wi (a) 2), .int .u64 (wi (a) 3)], Value.agg #[.int .u64 (wi (b) 0), .int .u64 (wi (b) 1), .int .u64 (wi (b) 2), .int .u64 (wi (b) 3)]] K ↔ K (.tuple #[wd (a / b), wd (a % b)]) := callK_iff G0W (by kernel_rfl) (above_ret a b ha h0 hB hb0)
theorem and4_of {p q r s : Bool} (h : (!p || (!q || (!r || !s))) = true) : (p && (q && (r && s))) = false := by cases p <;> cases q <;> cases r <;> cases s <;> simp_all
end Go.Gy
namespace Go.Gy
set_option linter.unusedSimpArgs false
set_option linter.unusedVariables false
open Go Go.RowKit Go.Proofs
theorem neg_div (m b : Int) (hb : 0 < b) : (-(m + 1)) / b = -(m / b) - 1 ∧ (-(m + 1)) % b = b - 1 - m % b := by
  have h1 := Int.mul_ediv_add_emod m b
  have h2 := Int.emod_nonneg m (show b ≠ 0 by omega)
  have h3 := Int.emod_lt_of_pos m hb
  generalize m % b = r at *
  generalize m / b = q at *
  subst h1
  have e : -(b * q + r + 1) = b * (-q - 1) + (b - 1 - r) := by rw [Int.mul_sub, Int.mul_neg, Int.mul_one]; omega
  rw [e]
  constructor
  · rw [Int.mul_add_ediv_left _ _ (by omega), Int.ediv_eq_zero_of_lt (by omega) (by omega), Int.add_zero]
  · rw [Int.mul_add_emod_self_left, Int.emod_eq_of_lt (by omega) (by omega)]
theorem above_neg (a b : Int) (ha : sm a) (h0 : a < 0) (hB : sm b) (hb0 : 0 < b) : Ret Tryd.prog G0 127 #[wd a, wd b] (.tuple #[wd (a / b), wd (a % b)]) := by
  refine ret_of G0F Tryd.func127 rfl Tryd.call127 (by simp) (by simp) (by simp [Tryd.ntmps127]) ?_
  intro C hC hC0 hY
  have s1 : ¬ 0 ≤ cmpI (sz a) 0 := by rw [wr_sz ha.wr]; unfold cmpI; split <;> (try split) <;> omega
  obtain ⟨m, hm⟩ : ∃ m, a = -(m + 1) := ⟨-a - 1, by omega⟩
  obtain ⟨e1, e2⟩ := neg_div m b hb0
  rw [hm, e1, e2]
  have hm0 : 0 ≤ m := by omega
  have hms : wr m := ⟨Int.le_trans (by decide) hm0, by have := ha.1; unfold sm at *; omega⟩
  have hBw := hB.wr
  have e3 : - -(m + 1) - 1 = m := by omega
  rw [hm] at s1
  repeat' (first | refine GW_seq ?_ | simp only [List.length_cons, List.length_nil, Nat.reduceAdd, Nat.reduceMul, wN] | ((first | refine GW_region' [] (by kernel_rfl) ?_ | refine GW_draw' [] follows (by kernel_rfl) (by kernel_rfl) ?_); intro Q hQ hP; simp [hC, hY, s1, e3, hms, hm0, hBw, hb0]; (first | refine hQ _ _ _ _ ?_ | refine hQ _ _ _ _ (by kernel_rfl) ?_ | refine hP _ _ (fun _ => ?_) | refine hP _ _ (by kernel_rfl) (fun _ => ?_)); clear hQ hP Q) | refine GW_block ?_ | refine GW_ret ?_ | refine GW_skip ?_ | refine GW_exit ?_ | refine GW_goto ?_ | refine GW_label ?_ | simp only [blockG_exit] | (refine GW_cond (by simp; rfl) ?_ ?_ <;> (intro hb; first | (exfalso; exact absurd hb (by decide)) | skip)))
  refine ⟨.inr trivial, ?_⟩
  simp [Tryd.results127]
@[simp] theorem r3above_n (a b : Int) (ha : sm a) (h0 : a < 0) (hB : sm b) (hb0 : 0 < b) (K : Value → Prop) : callK Tryd.prog G0 127 #[Value.agg #[.int .u64 (wi (a) 0), .int .u64 (wi (a) 1), .int .u64 (wi (a) 2), .int .u64 (wi (a) 3)], Value.agg #[.int .u64 (wi (b) 0), .int .u64 (wi (b) 1), .int .u64 (wi (b) 2), .int .u64 (wi (b) 3)]] K ↔ K (.tuple #[wd (a / b), wd (a % b)]) := callK_iff G0W (by kernel_rfl) (above_neg a b ha h0 hB hb0)
theorem above_all (a b : Int) (ha : sm a) (hB : sm b) (hb0 : 0 < b) (K : Value → Prop) : callK Tryd.prog G0 127 #[Value.agg #[.int .u64 (wi (a) 0), .int .u64 (wi (a) 1), .int .u64 (wi (a) 2), .int .u64 (wi (a) 3)], Value.agg #[.int .u64 (wi (b) 0), .int .u64 (wi (b) 1), .int .u64 (wi (b) 2), .int .u64 (wi (b) 3)]] K ↔ K (.tuple #[wd (a / b), wd (a % b)]) := by
  by_cases h0 : a < 0
  · exact r3above_n a b ha h0 hB hb0 K
  · exact r3above a b ha.wr (by omega) hB.wr hb0 K
theorem floor3s_ret (a b : Int) (ha : sm a) (hB : sm b) (hb0 : 0 < b) : Ret Tryd.prog G0 104 #[wd a, wd b] (.tuple #[wd (a / b), wd (a % b), .int .i64 0]) := by
  refine ret_of G0F Tryd.func104 rfl Tryd.call104 (by simp) (by simp) (by simp [Tryd.ntmps104]) ?_
  intro C hC hC0 hY
  have s1 : 0 < cmpI (sz b) 0 := by rw [hB.sz]; unfold cmpI; split <;> (try split) <;> omega
  have z1 := and4_of (wr_ne hB.wr (by omega))
  have l1 := and4_of <| least_ne a ha.wr ha.lst
  have l2 := and4_of <| least_ne b hB.wr hB.lst
  repeat' (first | refine GW_seq ?_ | simp only [List.length_cons, List.length_nil, Nat.reduceAdd, Nat.reduceMul, wN] | ((first | refine GW_region' [] (by kernel_rfl) ?_ | refine GW_draw' [] follows (by kernel_rfl) (by kernel_rfl) ?_); intro Q hQ hP; simp [hC, hY, s1, ha, hB, hb0, z1, l1, l2, above_all]; (first | refine hQ _ _ _ _ ?_ | refine hQ _ _ _ _ (by kernel_rfl) ?_ | refine hP _ _ (fun _ => ?_) | refine hP _ _ (by kernel_rfl) (fun _ => ?_)); clear hQ hP Q) | refine GW_block ?_ | refine GW_ret ?_ | refine GW_skip ?_ | refine GW_exit ?_ | refine GW_goto ?_ | refine GW_label ?_ | simp only [blockG_exit] | (refine GW_cond (by simp; rfl) ?_ ?_ <;> (intro hb; first | (exfalso; exact absurd hb (by decide)) | skip)))
  refine ⟨.inr trivial, ?_⟩
  simp [Tryd.results104]
theorem r3floors (a b : Int) (ha : sm a) (hB : sm b) (hb0 : 0 < b) (K : Value → Prop) : callK Tryd.prog G0 104 #[Value.agg #[.int .u64 (wi (a) 0), .int .u64 (wi (a) 1), .int .u64 (wi (a) 2), .int .u64 (wi (a) 3)], Value.agg #[.int .u64 (wi (b) 0), .int .u64 (wi (b) 1), .int .u64 (wi (b) 2), .int .u64 (wi (b) 3)]] K ↔ K (.tuple #[wd (a / b), wd (a % b), .int .i64 0]) := callK_iff G0W (by kernel_rfl) (floor3s_ret a b ha hB hb0)
theorem near3_ret (a b : Int) (ha : sm a) (hB : sm b) (h0 : 0 < b) : Ret Tryd.prog G0 76 #[wd a, wd b] (.tuple #[wd (nearQ a b), .int .i64 0]) := by
  refine ret_of G0F Tryd.func76 rfl Tryd.call76 (by simp) (by simp) (by simp [Tryd.ntmps76]) ?_
  intro C hC hC0 hY
  have hq := sm_div ha h0
  have r0 := Int.emod_nonneg a (show b ≠ 0 by omega)
  have r1 := Int.emod_lt_of_pos a h0
  have hr : sm (a % b) := ⟨Int.le_trans (by decide) r0, Int.le_trans (Int.le_of_lt r1) hB.2⟩
  have hbr : sm (b - a % b) := ⟨Int.le_trans (by decide) (show 0 ≤ b - a % b by omega), Int.le_trans (show b - a % b ≤ b by omega) hB.2⟩
  have s1 := hr.sz
  have s2 := hbr.sz
  have s3 : ¬ cmpI (sz b) 0 < 0 := by rw [hB.sz]; unfold cmpI; split <;> (try split) <;> omega
  have s4 := hq.sz
  have nq : nearQ a b = if b < 2 * (a % b) ∨ (2 * (a % b) = b ∧ 0 ≤ a / b) then a / b + 1 else a / b := rfl
  have hfl := r3floors a b ha hB h0
  rw [nq]
  generalize a % b = r at *
  generalize a / b = q at *
  clear nq
  by_cases c1 : b < 2 * r
  · have hc : cmpI r (b - r) = 1 := cmpI_more (by omega)
    rw [if_pos (.inl c1)]
    repeat' (first | refine GW_seq ?_ | simp only [List.length_cons, List.length_nil, Nat.reduceAdd, Nat.reduceMul, wN] | ((first | refine GW_region' [] (by kernel_rfl) ?_ | refine GW_draw' [] follows (by kernel_rfl) (by kernel_rfl) ?_); intro Q hQ hP; simp [hC, hY, hfl, s1, s2, s3, s4, hc]; (first | refine hQ _ _ _ _ ?_ | refine hQ _ _ _ _ (by kernel_rfl) ?_ | refine hP _ _ (fun _ => ?_) | refine hP _ _ (by kernel_rfl) (fun _ => ?_)); clear hQ hP Q) | refine GW_block ?_ | refine GW_ret ?_ | refine GW_skip ?_ | refine GW_exit ?_ | refine GW_goto ?_ | refine GW_label ?_ | simp only [blockG_exit] | (refine GW_cond (by simp; rfl) ?_ ?_ <;> (intro hb; first | (exfalso; exact absurd hb (by decide)) | skip)))
    refine ⟨.inr trivial, ?_⟩
    simp [Tryd.results76]
  · by_cases c2 : 2 * r = b
    · have hc : cmpI r (b - r) = 0 := by rw [show b - r = r by omega]; exact cmpI_same r
      by_cases c3 : 0 ≤ q
      · have hs : 0 ≤ cmpI q 0 := by unfold cmpI; split <;> (try split) <;> omega
        rw [if_pos (.inr ⟨c2, c3⟩)]
        repeat' (first | refine GW_seq ?_ | simp only [List.length_cons, List.length_nil, Nat.reduceAdd, Nat.reduceMul, wN] | ((first | refine GW_region' [] (by kernel_rfl) ?_ | refine GW_draw' [] follows (by kernel_rfl) (by kernel_rfl) ?_); intro Q hQ hP; simp [hC, hY, hfl, s1, s2, s3, s4, hc, hs]; (first | refine hQ _ _ _ _ ?_ | refine hQ _ _ _ _ (by kernel_rfl) ?_ | refine hP _ _ (fun _ => ?_) | refine hP _ _ (by kernel_rfl) (fun _ => ?_)); clear hQ hP Q) | refine GW_block ?_ | refine GW_ret ?_ | refine GW_skip ?_ | refine GW_exit ?_ | refine GW_goto ?_ | refine GW_label ?_ | simp only [blockG_exit] | (refine GW_cond (by simp; rfl) ?_ ?_ <;> (intro hb; first | (exfalso; exact absurd hb (by decide)) | skip)))
        refine ⟨.inr trivial, ?_⟩
        simp [Tryd.results76]
      · have hs : ¬ 0 ≤ cmpI q 0 := by unfold cmpI; split <;> (try split) <;> omega
        rw [if_neg (by omega)]
        repeat' (first | refine GW_seq ?_ | simp only [List.length_cons, List.length_nil, Nat.reduceAdd, Nat.reduceMul, wN] | ((first | refine GW_region' [] (by kernel_rfl) ?_ | refine GW_draw' [] follows (by kernel_rfl) (by kernel_rfl) ?_); intro Q hQ hP; simp [hC, hY, hfl, s1, s2, s3, s4, hc, hs]; (first | refine hQ _ _ _ _ ?_ | refine hQ _ _ _ _ (by kernel_rfl) ?_ | refine hP _ _ (fun _ => ?_) | refine hP _ _ (by kernel_rfl) (fun _ => ?_)); clear hQ hP Q) | refine GW_block ?_ | refine GW_ret ?_ | refine GW_skip ?_ | refine GW_exit ?_ | refine GW_goto ?_ | refine GW_label ?_ | simp only [blockG_exit] | (refine GW_cond (by simp; rfl) ?_ ?_ <;> (intro hb; first | (exfalso; exact absurd hb (by decide)) | skip)))
        refine ⟨.inr trivial, ?_⟩
        simp [Tryd.results76]
    · have hc : cmpI r (b - r) = -1 := cmpI_less (by omega)
      rw [if_neg (by omega)]
      repeat' (first | refine GW_seq ?_ | simp only [List.length_cons, List.length_nil, Nat.reduceAdd, Nat.reduceMul, wN] | ((first | refine GW_region' [] (by kernel_rfl) ?_ | refine GW_draw' [] follows (by kernel_rfl) (by kernel_rfl) ?_); intro Q hQ hP; simp [hC, hY, hfl, s1, s2, s3, s4, hc]; (first | refine hQ _ _ _ _ ?_ | refine hQ _ _ _ _ (by kernel_rfl) ?_ | refine hP _ _ (fun _ => ?_) | refine hP _ _ (by kernel_rfl) (fun _ => ?_)); clear hQ hP Q) | refine GW_block ?_ | refine GW_ret ?_ | refine GW_skip ?_ | refine GW_exit ?_ | refine GW_goto ?_ | refine GW_label ?_ | simp only [blockG_exit] | (refine GW_cond (by simp; rfl) ?_ ?_ <;> (intro hb; first | (exfalso; exact absurd hb (by decide)) | skip)))
      refine ⟨.inr trivial, ?_⟩
      simp [Tryd.results76]
@[simp] theorem r3near (a b : Int) (ha : sm a) (hB : sm b) (h0 : 0 < b) (K : Value → Prop) : callK Tryd.prog G0 76 #[Value.agg #[.int .u64 (wi (a) 0), .int .u64 (wi (a) 1), .int .u64 (wi (a) 2), .int .u64 (wi (a) 3)], Value.agg #[.int .u64 (wi (b) 0), .int .u64 (wi (b) 1), .int .u64 (wi (b) 2), .int .u64 (wi (b) 3)]] K ↔ K (.tuple #[wd (nearQ a b), .int .i64 0]) := callK_iff G0W (by kernel_rfl) (near3_ret a b ha hB h0)
theorem ints3_ret (a b c : Int) (ha : i64 a) (hB : i64 b) (hc : i64 c) (hab : sm (a * b)) (h0 : 0 < c) (hq : i64 (nearQ (a * b) c)) : Ret Tryd.prog G0 43 #[.int .i64 a, .int .i64 b, .int .i64 c] (.tuple #[.int .i64 (nearQ (a * b) c), .int .i64 0]) := by
  refine ret_of G0F Tryd.func43 rfl Tryd.call43 (by simp) (by simp) (by simp [Tryd.ntmps43]) ?_
  intro C hC hC0 hY
  have s1 := ha.sm.sz
  have s2 := hB.sm.sz
  have s3 := hq.sm.sz
  have hcs := hc.sm
  repeat' (first | refine GW_seq ?_ | simp only [List.length_cons, List.length_nil, Nat.reduceAdd, Nat.reduceMul, wN] | ((first | refine GW_region' [] (by kernel_rfl) ?_ | refine GW_draw' [] follows (by kernel_rfl) (by kernel_rfl) ?_); intro Q hQ hP; simp [hC, hY, ha, hB, hc, hab, h0, hq, s1, s2, s3, hcs]; (first | refine hQ _ _ _ _ ?_ | refine hQ _ _ _ _ (by kernel_rfl) ?_ | refine hP _ _ (fun _ => ?_) | refine hP _ _ (by kernel_rfl) (fun _ => ?_)); clear hQ hP Q) | refine GW_block ?_ | refine GW_ret ?_ | refine GW_skip ?_ | refine GW_exit ?_ | refine GW_goto ?_ | refine GW_label ?_ | simp only [blockG_exit] | (refine GW_cond (by simp; rfl) ?_ ?_ <;> (intro hb; first | (exfalso; exact absurd hb (by decide)) | skip)))
  refine ⟨.inr trivial, ?_⟩
  simp [Tryd.results43]
@[simp] theorem r3ints (a b c : Int) (ha : i64 a) (hB : i64 b) (hc : i64 c) (hab : sm (a * b)) (h0 : 0 < c) (hq : i64 (nearQ (a * b) c)) (K : Value → Prop) : callK Tryd.prog G0 43 #[.int .i64 a, .int .i64 b, .int .i64 c] K ↔ K (.tuple #[.int .i64 (nearQ (a * b) c), .int .i64 0]) := callK_iff G0W (by kernel_rfl) (ints3_ret a b c ha hB hc hab h0 hq)
end Go.Gy
namespace Go.Gy
set_option linter.unusedSimpArgs false
set_option linter.unusedVariables false
open Go Go.RowKit Go.Proofs
/-- Whether it is a part. -/
def partB (n d : Int) : Bool := decide (-2097152 ≤ n ∧ n ≤ 2097152 ∧ 1 ≤ d ∧ d ≤ 2097152)
theorem part_max (n : Int) (hn : i64 n) {m : Int} (hm : (if n < Int.bmod (-n) 18446744073709551616 then Int.bmod (-n) 18446744073709551616 else n) = m) : (m ≤ 2097152 ∧ -2097152 ≤ n) ↔ (-2097152 ≤ n ∧ n ≤ 2097152) := by
  have h1 := hn.1
  have h2 := hn.2
  rw [Int.bmod_def] at hm
  by_cases e : n = -9223372036854775808
  · subst e; simp at hm; omega
  · have e2 : (if -n % ((18446744073709551616 : Nat) : Int) < (((18446744073709551616 : Nat) : Int) + 1) / 2 then -n % ((18446744073709551616 : Nat) : Int) else -n % ((18446744073709551616 : Nat) : Int) - ((18446744073709551616 : Nat) : Int)) = -n := by split <;> omega
    rw [e2] at hm
    split at hm <;> omega
theorem part_ret (n d : Int) (hn : i64 n) : Ret Tryd.prog G0 17 #[.int .i64 n, .int .i64 d] (.bool (partB n d)) := by
  refine ret_of G0F Tryd.func17 rfl Tryd.call17 rfl (by simp) (by simp [Tryd.ntmps17]) ?_
  intro C hC hC0 hY
  obtain ⟨m, hm⟩ : ∃ m, (if n < Int.bmod (-n) 18446744073709551616 then Int.bmod (-n) 18446744073709551616 else n) = m := ⟨_, rfl⟩
  have key := part_max n hn hm
  by_cases c0 : m ≤ 2097152
  · by_cases c1 : -2097152 ≤ n
    · have c4 := key.1 ⟨c0, c1⟩
      by_cases c2 : 0 < d
      · have ep : partB n d = decide (d ≤ 2097152) := by unfold partB; congr 1; simp only [eq_iff_iff]; omega
        rw [ep]
        repeat' (first | refine GW_seq ?_ | simp only [List.length_cons, List.length_nil, Nat.reduceAdd, Nat.reduceMul, wN] | ((first | refine GW_region' [] (by kernel_rfl) ?_ | refine GW_draw' [] follows (by kernel_rfl) (by kernel_rfl) ?_); intro Q hQ hP; simp [hC, hY, hm, c0, c1, c2]; (first | refine hQ _ _ _ _ ?_ | refine hQ _ _ _ _ (by kernel_rfl) ?_ | refine hP _ _ (fun _ => ?_) | refine hP _ _ (by kernel_rfl) (fun _ => ?_)); clear hQ hP Q) | refine GW_block ?_ | refine GW_ret ?_ | refine GW_skip ?_ | refine GW_exit ?_ | refine GW_goto ?_ | refine GW_label ?_ | simp only [blockG_exit] | (refine GW_cond (by simp; rfl) ?_ ?_ <;> (intro hb; first | (exfalso; exact absurd hb (by decide)) | skip)))
        refine ⟨.inr trivial, ?_⟩
        simp [Tryd.results17]
      · have ep : partB n d = false := by unfold partB; simp only [decide_eq_false_iff_not]; omega
        rw [ep]
        repeat' (first | refine GW_seq ?_ | simp only [List.length_cons, List.length_nil, Nat.reduceAdd, Nat.reduceMul, wN] | ((first | refine GW_region' [] (by kernel_rfl) ?_ | refine GW_draw' [] follows (by kernel_rfl) (by kernel_rfl) ?_); intro Q hQ hP; simp [hC, hY, hm, c0, c1, c2]; (first | refine hQ _ _ _ _ ?_ | refine hQ _ _ _ _ (by kernel_rfl) ?_ | refine hP _ _ (fun _ => ?_) | refine hP _ _ (by kernel_rfl) (fun _ => ?_)); clear hQ hP Q) | refine GW_block ?_ | refine GW_ret ?_ | refine GW_skip ?_ | refine GW_exit ?_ | refine GW_goto ?_ | refine GW_label ?_ | simp only [blockG_exit] | (refine GW_cond (by simp; rfl) ?_ ?_ <;> (intro hb; first | (exfalso; exact absurd hb (by decide)) | skip)))
        refine ⟨.inr trivial, ?_⟩
        simp [Tryd.results17]
    · have ep : partB n d = false := by unfold partB; simp only [decide_eq_false_iff_not]; omega
      rw [ep]
      repeat' (first | refine GW_seq ?_ | simp only [List.length_cons, List.length_nil, Nat.reduceAdd, Nat.reduceMul, wN] | ((first | refine GW_region' [] (by kernel_rfl) ?_ | refine GW_draw' [] follows (by kernel_rfl) (by kernel_rfl) ?_); intro Q hQ hP; simp [hC, hY, hm, c0, c1]; (first | refine hQ _ _ _ _ ?_ | refine hQ _ _ _ _ (by kernel_rfl) ?_ | refine hP _ _ (fun _ => ?_) | refine hP _ _ (by kernel_rfl) (fun _ => ?_)); clear hQ hP Q) | refine GW_block ?_ | refine GW_ret ?_ | refine GW_skip ?_ | refine GW_exit ?_ | refine GW_goto ?_ | refine GW_label ?_ | simp only [blockG_exit] | (refine GW_cond (by simp; rfl) ?_ ?_ <;> (intro hb; first | (exfalso; exact absurd hb (by decide)) | skip)))
      refine ⟨.inr trivial, ?_⟩
      simp [Tryd.results17]
  · have ep : partB n d = false := by unfold partB; simp only [decide_eq_false_iff_not]; omega
    rw [ep]
    repeat' (first | refine GW_seq ?_ | simp only [List.length_cons, List.length_nil, Nat.reduceAdd, Nat.reduceMul, wN] | ((first | refine GW_region' [] (by kernel_rfl) ?_ | refine GW_draw' [] follows (by kernel_rfl) (by kernel_rfl) ?_); intro Q hQ hP; simp [hC, hY, hm, c0]; (first | refine hQ _ _ _ _ ?_ | refine hQ _ _ _ _ (by kernel_rfl) ?_ | refine hP _ _ (fun _ => ?_) | refine hP _ _ (by kernel_rfl) (fun _ => ?_)); clear hQ hP Q) | refine GW_block ?_ | refine GW_ret ?_ | refine GW_skip ?_ | refine GW_exit ?_ | refine GW_goto ?_ | refine GW_label ?_ | simp only [blockG_exit] | (refine GW_cond (by simp; rfl) ?_ ?_ <;> (intro hb; first | (exfalso; exact absurd hb (by decide)) | skip)))
    refine ⟨.inr trivial, ?_⟩
    simp [Tryd.results17]
@[simp] theorem dpart (n d : Int) (hn : i64 n) (K : Value → Prop) : callK Tryd.prog G0 17 #[.int .i64 n, .int .i64 d] K ↔ K (.bool (partB n d)) := callK_iff G0W (by kernel_rfl) (part_ret n d hn)
theorem part15_ret (n d : Int) : Ret Tryd.prog G0 18 #[.int .i64 n, .int .i64 d] (.bool (partB n d)) := by
  refine ret_of G0F Tryd.func18 rfl Tryd.call18 rfl (by simp) (by simp [Tryd.ntmps18]) ?_
  intro C hC hC0 hY
  by_cases c0 : -2097152 ≤ n
  · by_cases c1 : n ≤ 2097152
    · by_cases c2 : 1 ≤ d
      · have ep : partB n d = decide (d ≤ 2097152) := by unfold partB; congr 1; simp only [eq_iff_iff]; omega
        rw [ep]
        repeat' (first | refine GW_seq ?_ | simp only [List.length_cons, List.length_nil, Nat.reduceAdd, Nat.reduceMul, wN] | ((first | refine GW_region' [] (by kernel_rfl) ?_ | refine GW_draw' [] follows (by kernel_rfl) (by kernel_rfl) ?_); intro Q hQ hP; simp [hC, hY, c0, c1, c2]; (first | refine hQ _ _ _ _ ?_ | refine hQ _ _ _ _ (by kernel_rfl) ?_ | refine hP _ _ (fun _ => ?_) | refine hP _ _ (by kernel_rfl) (fun _ => ?_)); clear hQ hP Q) | refine GW_block ?_ | refine GW_ret ?_ | refine GW_skip ?_ | refine GW_exit ?_ | refine GW_goto ?_ | refine GW_label ?_ | simp only [blockG_exit] | (refine GW_cond (by simp; rfl) ?_ ?_ <;> (intro hb; first | (exfalso; exact absurd hb (by decide)) | skip)))
        refine ⟨.inr trivial, ?_⟩
        simp [Tryd.results18]
      · have ep : partB n d = false := by unfold partB; simp only [decide_eq_false_iff_not]; omega
        rw [ep]
        repeat' (first | refine GW_seq ?_ | simp only [List.length_cons, List.length_nil, Nat.reduceAdd, Nat.reduceMul, wN] | ((first | refine GW_region' [] (by kernel_rfl) ?_ | refine GW_draw' [] follows (by kernel_rfl) (by kernel_rfl) ?_); intro Q hQ hP; simp [hC, hY, c0, c1, c2]; (first | refine hQ _ _ _ _ ?_ | refine hQ _ _ _ _ (by kernel_rfl) ?_ | refine hP _ _ (fun _ => ?_) | refine hP _ _ (by kernel_rfl) (fun _ => ?_)); clear hQ hP Q) | refine GW_block ?_ | refine GW_ret ?_ | refine GW_skip ?_ | refine GW_exit ?_ | refine GW_goto ?_ | refine GW_label ?_ | simp only [blockG_exit] | (refine GW_cond (by simp; rfl) ?_ ?_ <;> (intro hb; first | (exfalso; exact absurd hb (by decide)) | skip)))
        refine ⟨.inr trivial, ?_⟩
        simp [Tryd.results18]
    · have ep : partB n d = false := by unfold partB; simp only [decide_eq_false_iff_not]; omega
      rw [ep]
      repeat' (first | refine GW_seq ?_ | simp only [List.length_cons, List.length_nil, Nat.reduceAdd, Nat.reduceMul, wN] | ((first | refine GW_region' [] (by kernel_rfl) ?_ | refine GW_draw' [] follows (by kernel_rfl) (by kernel_rfl) ?_); intro Q hQ hP; simp [hC, hY, c0, c1]; (first | refine hQ _ _ _ _ ?_ | refine hQ _ _ _ _ (by kernel_rfl) ?_ | refine hP _ _ (fun _ => ?_) | refine hP _ _ (by kernel_rfl) (fun _ => ?_)); clear hQ hP Q) | refine GW_block ?_ | refine GW_ret ?_ | refine GW_skip ?_ | refine GW_exit ?_ | refine GW_goto ?_ | refine GW_label ?_ | simp only [blockG_exit] | (refine GW_cond (by simp; rfl) ?_ ?_ <;> (intro hb; first | (exfalso; exact absurd hb (by decide)) | skip)))
      refine ⟨.inr trivial, ?_⟩
      simp [Tryd.results18]
  · have ep : partB n d = false := by unfold partB; simp only [decide_eq_false_iff_not]; omega
    rw [ep]
    repeat' (first | refine GW_seq ?_ | simp only [List.length_cons, List.length_nil, Nat.reduceAdd, Nat.reduceMul, wN] | ((first | refine GW_region' [] (by kernel_rfl) ?_ | refine GW_draw' [] follows (by kernel_rfl) (by kernel_rfl) ?_); intro Q hQ hP; simp [hC, hY, c0]; (first | refine hQ _ _ _ _ ?_ | refine hQ _ _ _ _ (by kernel_rfl) ?_ | refine hP _ _ (fun _ => ?_) | refine hP _ _ (by kernel_rfl) (fun _ => ?_)); clear hQ hP Q) | refine GW_block ?_ | refine GW_ret ?_ | refine GW_skip ?_ | refine GW_exit ?_ | refine GW_goto ?_ | refine GW_label ?_ | simp only [blockG_exit] | (refine GW_cond (by simp; rfl) ?_ ?_ <;> (intro hb; first | (exfalso; exact absurd hb (by decide)) | skip)))
    refine ⟨.inr trivial, ?_⟩
    simp [Tryd.results18]
@[simp] theorem dpart15 (n d : Int) (K : Value → Prop) : callK Tryd.prog G0 18 #[.int .i64 n, .int .i64 d] K ↔ K (.bool (partB n d)) := callK_iff G0W (by kernel_rfl) (part15_ret n d)
/-- One's error, and what it tells. -/
def d1E (v n d : Int) : Int := if partB n d = true ∧ -1073741824 ≤ v ∧ v ≤ 1073741824 then 0 else 2
def d1V (v n d : Int) : Int := if partB n d = true ∧ -1073741824 ≤ v ∧ v ≤ 1073741824 then nearQ (v * n) d else 0
theorem partB_t {n d : Int} (h : partB n d = true) : -2097152 ≤ n ∧ n ≤ 2097152 ∧ 1 ≤ d ∧ d ≤ 2097152 := by unfold partB at h; exact of_decide_eq_true h
theorem abs_mul {a b p q : Int} (h1 : -p ≤ a) (h2 : a ≤ p) (h3 : -q ≤ b) (h4 : b ≤ q) : -(p * q) ≤ a * b ∧ a * b ≤ p * q := by
  have hp : 0 ≤ p := by omega
  have hq : 0 ≤ q := by omega
  have e1 : 0 ≤ (p - a) * (q + b) := Int.mul_nonneg (by omega) (by omega)
  have e2 : 0 ≤ (p + a) * (q - b) := Int.mul_nonneg (by omega) (by omega)
  have e3 : 0 ≤ (p - a) * (q - b) := Int.mul_nonneg (by omega) (by omega)
  have e4 : 0 ≤ (p + a) * (q + b) := Int.mul_nonneg (by omega) (by omega)
  simp only [Int.sub_mul, Int.add_mul, Int.mul_sub, Int.mul_add] at e1 e2 e3 e4
  generalize p * q = u at *
  generalize a * b = w at *
  generalize p * b = x at *
  generalize a * q = y at *
  omega
theorem d1_bd {v n d : Int} (h : partB n d = true) (h1 : -1073741824 ≤ v) (h2 : v ≤ 1073741824) : (-2251799813685248 ≤ v * n ∧ v * n ≤ 2251799813685248) ∧ (-2251799813685248 ≤ nearQ (v * n) d ∧ nearQ (v * n) d ≤ 2251799813685248) := by
  obtain ⟨p1, p2, p3, p4⟩ := partB_t h
  have hm := abs_mul (p := 1073741824) (q := 2097152) h1 h2 p1 p2
  exact ⟨hm, nearQ_bd (by omega) hm.1 hm.2 (by decide)⟩
theorem i64_of {z : Int} (h : -2251799813685248 ≤ z ∧ z ≤ 2251799813685248) : i64 z := ⟨by omega, by omega⟩
theorem sm_of {z : Int} (h : -2251799813685248 ≤ z ∧ z ≤ 2251799813685248) : sm z := (i64_of h).sm
theorem d1_ret (v n d : Int) (hv : i64 v) (hn : i64 n) (hd : i64 d) : Ret Tryd.prog G0 13 #[.int .i64 v, .int .i64 n, .int .i64 d] (.tuple #[.int .i64 (d1V v n d), .int .i64 (d1E v n d)]) := by
  refine ret_of G0F Tryd.func13 rfl Tryd.call13 (by simp) (by simp) (by simp [Tryd.ntmps13]) ?_
  intro C hC hC0 hY
  cases hp : partB n d with
  | false =>
    have e1 : d1E v n d = 2 := by unfold d1E; rw [if_neg (by simp [hp])]
    have e2 : d1V v n d = 0 := by unfold d1V; rw [if_neg (by simp [hp])]
    rw [e1, e2]
    repeat' (first | refine GW_seq ?_ | simp only [List.length_cons, List.length_nil, Nat.reduceAdd, Nat.reduceMul, wN] | ((first | refine GW_region' [] (by kernel_rfl) ?_ | refine GW_draw' [] follows (by kernel_rfl) (by kernel_rfl) ?_); intro Q hQ hP; simp [hC, hY, hn, hp]; (first | refine hQ _ _ _ _ ?_ | refine hQ _ _ _ _ (by kernel_rfl) ?_ | refine hP _ _ (fun _ => ?_) | refine hP _ _ (by kernel_rfl) (fun _ => ?_)); clear hQ hP Q) | refine GW_block ?_ | refine GW_ret ?_ | refine GW_skip ?_ | refine GW_exit ?_ | refine GW_goto ?_ | refine GW_label ?_ | simp only [blockG_exit] | (refine GW_cond (by simp; rfl) ?_ ?_ <;> (intro hb; first | (exfalso; exact absurd hb (by decide)) | skip)))
    refine ⟨.inr trivial, ?_⟩
    simp [Tryd.results13]
  | true =>
    by_cases c1 : v < -1073741824
    · have e1 : d1E v n d = 2 := by unfold d1E; rw [if_neg (by omega)]
      have e2 : d1V v n d = 0 := by unfold d1V; rw [if_neg (by omega)]
      rw [e1, e2]
      repeat' (first | refine GW_seq ?_ | simp only [List.length_cons, List.length_nil, Nat.reduceAdd, Nat.reduceMul, wN] | ((first | refine GW_region' [] (by kernel_rfl) ?_ | refine GW_draw' [] follows (by kernel_rfl) (by kernel_rfl) ?_); intro Q hQ hP; simp [hC, hY, hn, hp, c1]; (first | refine hQ _ _ _ _ ?_ | refine hQ _ _ _ _ (by kernel_rfl) ?_ | refine hP _ _ (fun _ => ?_) | refine hP _ _ (by kernel_rfl) (fun _ => ?_)); clear hQ hP Q) | refine GW_block ?_ | refine GW_ret ?_ | refine GW_skip ?_ | refine GW_exit ?_ | refine GW_goto ?_ | refine GW_label ?_ | simp only [blockG_exit] | (refine GW_cond (by simp; rfl) ?_ ?_ <;> (intro hb; first | (exfalso; exact absurd hb (by decide)) | skip)))
      refine ⟨.inr trivial, ?_⟩
      simp [Tryd.results13]
    · by_cases c2 : 1073741824 < v
      · have e1 : d1E v n d = 2 := by unfold d1E; rw [if_neg (by omega)]
        have e2 : d1V v n d = 0 := by unfold d1V; rw [if_neg (by omega)]
        rw [e1, e2]
        repeat' (first | refine GW_seq ?_ | simp only [List.length_cons, List.length_nil, Nat.reduceAdd, Nat.reduceMul, wN] | ((first | refine GW_region' [] (by kernel_rfl) ?_ | refine GW_draw' [] follows (by kernel_rfl) (by kernel_rfl) ?_); intro Q hQ hP; simp [hC, hY, hn, hp, c1, c2]; (first | refine hQ _ _ _ _ ?_ | refine hQ _ _ _ _ (by kernel_rfl) ?_ | refine hP _ _ (fun _ => ?_) | refine hP _ _ (by kernel_rfl) (fun _ => ?_)); clear hQ hP Q) | refine GW_block ?_ | refine GW_ret ?_ | refine GW_skip ?_ | refine GW_exit ?_ | refine GW_goto ?_ | refine GW_label ?_ | simp only [blockG_exit] | (refine GW_cond (by simp; rfl) ?_ ?_ <;> (intro hb; first | (exfalso; exact absurd hb (by decide)) | skip)))
        refine ⟨.inr trivial, ?_⟩
        simp [Tryd.results13]
      · have e1 : d1E v n d = 0 := by unfold d1E; rw [if_pos ⟨hp, by omega, by omega⟩]
        have e2 : d1V v n d = nearQ (v * n) d := by unfold d1V; rw [if_pos ⟨hp, by omega, by omega⟩]
        rw [e1, e2]
        have b := d1_bd (v := v) hp (by omega) (by omega)
        have s1 := sm_of b.1
        have s2 := i64_of b.2
        have d0 : 0 < d := by have := partB_t hp; omega
        repeat' (first | refine GW_seq ?_ | simp only [List.length_cons, List.length_nil, Nat.reduceAdd, Nat.reduceMul, wN] | ((first | refine GW_region' [] (by kernel_rfl) ?_ | refine GW_draw' [] follows (by kernel_rfl) (by kernel_rfl) ?_); intro Q hQ hP; simp [hC, hY, hn, hv, hd, hp, c1, c2, s1, s2, d0]; (first | refine hQ _ _ _ _ ?_ | refine hQ _ _ _ _ (by kernel_rfl) ?_ | refine hP _ _ (fun _ => ?_) | refine hP _ _ (by kernel_rfl) (fun _ => ?_)); clear hQ hP Q) | refine GW_block ?_ | refine GW_ret ?_ | refine GW_skip ?_ | refine GW_exit ?_ | refine GW_goto ?_ | refine GW_label ?_ | simp only [blockG_exit] | (refine GW_cond (by simp; rfl) ?_ ?_ <;> (intro hb; first | (exfalso; exact absurd hb (by decide)) | skip)))
        refine ⟨.inr trivial, ?_⟩
        simp [Tryd.results13]
@[simp] theorem d1c (v n d : Int) (hv : i64 v) (hn : i64 n) (hd : i64 d) (K : Value → Prop) : callK Tryd.prog G0 13 #[.int .i64 v, .int .i64 n, .int .i64 d] K ↔ K (.tuple #[.int .i64 (d1V v n d), .int .i64 (d1E v n d)]) := callK_iff G0W (by kernel_rfl) (d1_ret v n d hv hn hd)
theorem d115_ret (v n d : Int) (hv : i64 v) (hn : i64 n) (hd : i64 d) : Ret Tryd.prog G0 14 #[.int .i64 v, .int .i64 n, .int .i64 d] (.tuple #[.int .i64 (d1V v n d), .int .i64 (d1E v n d)]) := by
  refine ret_of G0F Tryd.func14 rfl Tryd.call14 (by simp) (by simp) (by simp [Tryd.ntmps14]) ?_
  intro C hC hC0 hY
  cases hp : partB n d with
  | false =>
    have e1 : d1E v n d = 2 := by unfold d1E; rw [if_neg (by simp [hp])]
    have e2 : d1V v n d = 0 := by unfold d1V; rw [if_neg (by simp [hp])]
    rw [e1, e2]
    repeat' (first | refine GW_seq ?_ | simp only [List.length_cons, List.length_nil, Nat.reduceAdd, Nat.reduceMul, wN] | ((first | refine GW_region' [] (by kernel_rfl) ?_ | refine GW_draw' [] follows (by kernel_rfl) (by kernel_rfl) ?_); intro Q hQ hP; simp [hC, hY, hn, hp]; (first | refine hQ _ _ _ _ ?_ | refine hQ _ _ _ _ (by kernel_rfl) ?_ | refine hP _ _ (fun _ => ?_) | refine hP _ _ (by kernel_rfl) (fun _ => ?_)); clear hQ hP Q) | refine GW_block ?_ | refine GW_ret ?_ | refine GW_skip ?_ | refine GW_exit ?_ | refine GW_goto ?_ | refine GW_label ?_ | simp only [blockG_exit] | (refine GW_cond (by simp; rfl) ?_ ?_ <;> (intro hb; first | (exfalso; exact absurd hb (by decide)) | skip)))
    refine ⟨.inr trivial, ?_⟩
    simp [Tryd.results14]
  | true =>
    by_cases c1 : v < -1073741824
    · have e1 : d1E v n d = 2 := by unfold d1E; rw [if_neg (by omega)]
      have e2 : d1V v n d = 0 := by unfold d1V; rw [if_neg (by omega)]
      rw [e1, e2]
      repeat' (first | refine GW_seq ?_ | simp only [List.length_cons, List.length_nil, Nat.reduceAdd, Nat.reduceMul, wN] | ((first | refine GW_region' [] (by kernel_rfl) ?_ | refine GW_draw' [] follows (by kernel_rfl) (by kernel_rfl) ?_); intro Q hQ hP; simp [hC, hY, hn, hp, c1]; (first | refine hQ _ _ _ _ ?_ | refine hQ _ _ _ _ (by kernel_rfl) ?_ | refine hP _ _ (fun _ => ?_) | refine hP _ _ (by kernel_rfl) (fun _ => ?_)); clear hQ hP Q) | refine GW_block ?_ | refine GW_ret ?_ | refine GW_skip ?_ | refine GW_exit ?_ | refine GW_goto ?_ | refine GW_label ?_ | simp only [blockG_exit] | (refine GW_cond (by simp; rfl) ?_ ?_ <;> (intro hb; first | (exfalso; exact absurd hb (by decide)) | skip)))
      refine ⟨.inr trivial, ?_⟩
      simp [Tryd.results14]
    · by_cases c2 : 1073741824 < v
      · have e1 : d1E v n d = 2 := by unfold d1E; rw [if_neg (by omega)]
        have e2 : d1V v n d = 0 := by unfold d1V; rw [if_neg (by omega)]
        rw [e1, e2]
        repeat' (first | refine GW_seq ?_ | simp only [List.length_cons, List.length_nil, Nat.reduceAdd, Nat.reduceMul, wN] | ((first | refine GW_region' [] (by kernel_rfl) ?_ | refine GW_draw' [] follows (by kernel_rfl) (by kernel_rfl) ?_); intro Q hQ hP; simp [hC, hY, hn, hp, c1, c2]; (first | refine hQ _ _ _ _ ?_ | refine hQ _ _ _ _ (by kernel_rfl) ?_ | refine hP _ _ (fun _ => ?_) | refine hP _ _ (by kernel_rfl) (fun _ => ?_)); clear hQ hP Q) | refine GW_block ?_ | refine GW_ret ?_ | refine GW_skip ?_ | refine GW_exit ?_ | refine GW_goto ?_ | refine GW_label ?_ | simp only [blockG_exit] | (refine GW_cond (by simp; rfl) ?_ ?_ <;> (intro hb; first | (exfalso; exact absurd hb (by decide)) | skip)))
        refine ⟨.inr trivial, ?_⟩
        simp [Tryd.results14]
      · have e1 : d1E v n d = 0 := by unfold d1E; rw [if_pos ⟨hp, by omega, by omega⟩]
        have e2 : d1V v n d = nearQ (n * v) d := by unfold d1V; rw [if_pos ⟨hp, by omega, by omega⟩, Int.mul_comm]
        rw [e1, e2]
        have b := d1_bd (v := v) hp (by omega) (by omega)
        rw [Int.mul_comm] at b
        have s1 := sm_of b.1
        have s2 := i64_of b.2
        have d0 : 0 < d := by have := partB_t hp; omega
        repeat' (first | refine GW_seq ?_ | simp only [List.length_cons, List.length_nil, Nat.reduceAdd, Nat.reduceMul, wN] | ((first | refine GW_region' [] (by kernel_rfl) ?_ | refine GW_draw' [] follows (by kernel_rfl) (by kernel_rfl) ?_); intro Q hQ hP; simp [hC, hY, hn, hv, hd, hp, c1, c2, s1, s2, d0]; (first | refine hQ _ _ _ _ ?_ | refine hQ _ _ _ _ (by kernel_rfl) ?_ | refine hP _ _ (fun _ => ?_) | refine hP _ _ (by kernel_rfl) (fun _ => ?_)); clear hQ hP Q) | refine GW_block ?_ | refine GW_ret ?_ | refine GW_skip ?_ | refine GW_exit ?_ | refine GW_goto ?_ | refine GW_label ?_ | simp only [blockG_exit] | (refine GW_cond (by simp; rfl) ?_ ?_ <;> (intro hb; first | (exfalso; exact absurd hb (by decide)) | skip)))
        refine ⟨.inr trivial, ?_⟩
        simp [Tryd.results14]
@[simp] theorem d1c15 (v n d : Int) (hv : i64 v) (hn : i64 n) (hd : i64 d) (K : Value → Prop) : callK Tryd.prog G0 14 #[.int .i64 v, .int .i64 n, .int .i64 d] K ↔ K (.tuple #[.int .i64 (d1V v n d), .int .i64 (d1E v n d)]) := callK_iff G0W (by kernel_rfl) (d115_ret v n d hv hn hd)
end Go.Gy
namespace Go.Gy
set_option linter.unusedSimpArgs false
set_option linter.unusedVariables false
open Go Go.RowKit Go.Proofs
def wyE (v0 v1 v2 n d : Int) : Int := if d1E v0 n d = 0 then (if d1E v1 n d = 0 then d1E v2 n d else d1E v1 n d) else d1E v0 n d
theorem d1E_or (v n d : Int) : d1E v n d = 0 ∨ d1E v n d = 2 := by unfold d1E; split <;> simp
theorem wyE_0 {v0 v1 v2 n d : Int} (h0 : d1E v0 n d = 2) : wyE v0 v1 v2 n d = 2 := by unfold wyE; rw [if_neg (by omega)]; exact h0
theorem wyE_1 {v0 v1 v2 n d : Int} (h0 : d1E v0 n d = 0) (h1 : d1E v1 n d = 2) : wyE v0 v1 v2 n d = 2 := by unfold wyE; rw [if_pos h0, if_neg (by omega)]; exact h1
theorem wyE_2 {v0 v1 v2 n d : Int} (h0 : d1E v0 n d = 0) (h1 : d1E v1 n d = 0) : wyE v0 v1 v2 n d = d1E v2 n d := by unfold wyE; rw [if_pos h0, if_pos h1]
set_option maxRecDepth 8000 in
theorem way_ret (v0 v1 v2 n d : Int) (h0 : i64 v0) (h1 : i64 v1) (h2 : i64 v2) (hn : i64 n) (hd : i64 d) : Ret Tryd.prog G0 15 #[.agg #[.int .i64 v0, .int .i64 v1, .int .i64 v2], .int .i64 n, .int .i64 d]
    (.tuple #[.agg #[.int .i64 (eaV (wyE v0 v1 v2 n d) (d1V v0 n d)), .int .i64 (eaV (wyE v0 v1 v2 n d) (d1V v1 n d)), .int .i64 (eaV (wyE v0 v1 v2 n d) (d1V v2 n d))], .int .i64 (wyE v0 v1 v2 n d)]) := by
  refine ret_of G0F Tryd.func15 rfl Tryd.call15 (by simp) (by simp) (by simp [Tryd.ntmps15]) ?_
  intro C hC hC0 hY
  rcases d1E_or v0 n d with c0 | c0
  · rcases d1E_or v1 n d with c1 | c1
    · rcases d1E_or v2 n d with c2 | c2
      · have e := wyE_2 (v2 := v2) c0 c1
        rw [e, c2]
        repeat' (first | refine GW_seq ?_ | refine GWL_start ?_ | refine GWL_step ?_ | simp only [List.length_cons, List.length_nil, Nat.reduceAdd, Nat.reduceMul, wN] | ((first | refine GW_region' [] (by kernel_rfl) ?_ | refine GW_draw' [] follows (by kernel_rfl) (by kernel_rfl) ?_); intro Q hQ hP; simp [hC, hY, h0, h1, h2, hn, hd, c0, c1, c2]; (first | refine hQ _ _ _ _ ?_ | refine hQ _ _ _ _ (by kernel_rfl) ?_ | refine hP _ _ (fun _ => ?_) | refine hP _ _ (by kernel_rfl) (fun _ => ?_)); clear hQ hP Q) | refine GW_block ?_ | refine GW_ret ?_ | refine GW_skip ?_ | refine GW_exit ?_ | refine GW_goto ?_ | refine GW_label ?_ | simp only [blockG_exit] | (refine GW_cond (by simp; rfl) ?_ ?_ <;> (intro hb; first | (exfalso; exact absurd hb (by decide)) | skip)))
        refine ⟨.inr trivial, ?_⟩
        simp [Tryd.results15, eaV]
      · have e := wyE_2 (v2 := v2) c0 c1
        rw [e, c2]
        repeat' (first | refine GW_seq ?_ | refine GWL_start ?_ | refine GWL_step ?_ | simp only [List.length_cons, List.length_nil, Nat.reduceAdd, Nat.reduceMul, wN] | ((first | refine GW_region' [] (by kernel_rfl) ?_ | refine GW_draw' [] follows (by kernel_rfl) (by kernel_rfl) ?_); intro Q hQ hP; simp [hC, hY, h0, h1, h2, hn, hd, c0, c1, c2]; (first | refine hQ _ _ _ _ ?_ | refine hQ _ _ _ _ (by kernel_rfl) ?_ | refine hP _ _ (fun _ => ?_) | refine hP _ _ (by kernel_rfl) (fun _ => ?_)); clear hQ hP Q) | refine GW_block ?_ | refine GW_ret ?_ | refine GW_skip ?_ | refine GW_exit ?_ | refine GW_goto ?_ | refine GW_label ?_ | simp only [blockG_exit] | (refine GW_cond (by simp; rfl) ?_ ?_ <;> (intro hb; first | (exfalso; exact absurd hb (by decide)) | skip)))
        refine ⟨.inr trivial, ?_⟩
        simp [Tryd.results15, eaV]
    · have e := wyE_1 (v2 := v2) c0 c1
      rw [e]
      repeat' (first | refine GW_seq ?_ | refine GWL_start ?_ | refine GWL_step ?_ | simp only [List.length_cons, List.length_nil, Nat.reduceAdd, Nat.reduceMul, wN] | ((first | refine GW_region' [] (by kernel_rfl) ?_ | refine GW_draw' [] follows (by kernel_rfl) (by kernel_rfl) ?_); intro Q hQ hP; simp [hC, hY, h0, h1, h2, hn, hd, c0, c1]; (first | refine hQ _ _ _ _ ?_ | refine hQ _ _ _ _ (by kernel_rfl) ?_ | refine hP _ _ (fun _ => ?_) | refine hP _ _ (by kernel_rfl) (fun _ => ?_)); clear hQ hP Q) | refine GW_block ?_ | refine GW_ret ?_ | refine GW_skip ?_ | refine GW_exit ?_ | refine GW_goto ?_ | refine GW_label ?_ | simp only [blockG_exit] | (refine GW_cond (by simp; rfl) ?_ ?_ <;> (intro hb; first | (exfalso; exact absurd hb (by decide)) | skip)))
      refine ⟨.inr trivial, ?_⟩
      simp [Tryd.results15, eaV]
  · have e := wyE_0 (v1 := v1) (v2 := v2) c0
    rw [e]
    repeat' (first | refine GW_seq ?_ | refine GWL_start ?_ | refine GWL_step ?_ | simp only [List.length_cons, List.length_nil, Nat.reduceAdd, Nat.reduceMul, wN] | ((first | refine GW_region' [] (by kernel_rfl) ?_ | refine GW_draw' [] follows (by kernel_rfl) (by kernel_rfl) ?_); intro Q hQ hP; simp [hC, hY, h0, h1, h2, hn, hd, c0]; (first | refine hQ _ _ _ _ ?_ | refine hQ _ _ _ _ (by kernel_rfl) ?_ | refine hP _ _ (fun _ => ?_) | refine hP _ _ (by kernel_rfl) (fun _ => ?_)); clear hQ hP Q) | refine GW_block ?_ | refine GW_ret ?_ | refine GW_skip ?_ | refine GW_exit ?_ | refine GW_goto ?_ | refine GW_label ?_ | simp only [blockG_exit] | (refine GW_cond (by simp; rfl) ?_ ?_ <;> (intro hb; first | (exfalso; exact absurd hb (by decide)) | skip)))
    refine ⟨.inr trivial, ?_⟩
    simp [Tryd.results15, eaV]
@[simp] theorem dway (v0 v1 v2 n d : Int) (h0 : i64 v0) (h1 : i64 v1) (h2 : i64 v2) (hn : i64 n) (hd : i64 d) (K : Value → Prop) : callK Tryd.prog G0 15 #[.agg #[.int .i64 v0, .int .i64 v1, .int .i64 v2], .int .i64 n, .int .i64 d] K ↔
    K (.tuple #[.agg #[.int .i64 (eaV (wyE v0 v1 v2 n d) (d1V v0 n d)), .int .i64 (eaV (wyE v0 v1 v2 n d) (d1V v1 n d)), .int .i64 (eaV (wyE v0 v1 v2 n d) (d1V v2 n d))], .int .i64 (wyE v0 v1 v2 n d)]) := callK_iff G0W (by kernel_rfl) (way_ret v0 v1 v2 n d h0 h1 h2 hn hd)
set_option maxRecDepth 8000 in
theorem way15_ret (v0 v1 v2 n d : Int) (h0 : i64 v0) (h1 : i64 v1) (h2 : i64 v2) (hn : i64 n) (hd : i64 d) : Ret Tryd.prog G0 16 #[.agg #[.int .i64 v0, .int .i64 v1, .int .i64 v2], .int .i64 n, .int .i64 d]
    (.tuple #[.agg #[.int .i64 (eaV (wyE v0 v1 v2 n d) (d1V v0 n d)), .int .i64 (eaV (wyE v0 v1 v2 n d) (d1V v1 n d)), .int .i64 (eaV (wyE v0 v1 v2 n d) (d1V v2 n d))], .int .i64 (wyE v0 v1 v2 n d)]) := by
  refine ret_of G0F Tryd.func16 rfl Tryd.call16 (by simp) (by simp) (by simp [Tryd.ntmps16]) ?_
  intro C hC hC0 hY
  rcases d1E_or v0 n d with c0 | c0
  · rcases d1E_or v1 n d with c1 | c1
    · rcases d1E_or v2 n d with c2 | c2
      · have e := wyE_2 (v2 := v2) c0 c1
        rw [e, c2]
        repeat' (first | refine GW_seq ?_ | refine GWL_start ?_ | refine GWL_step ?_ | simp only [List.length_cons, List.length_nil, Nat.reduceAdd, Nat.reduceMul, wN] | ((first | refine GW_region' [] (by kernel_rfl) ?_ | refine GW_draw' [] follows (by kernel_rfl) (by kernel_rfl) ?_); intro Q hQ hP; simp [hC, hY, h0, h1, h2, hn, hd, c0, c1, c2]; (first | refine hQ _ _ _ _ ?_ | refine hQ _ _ _ _ (by kernel_rfl) ?_ | refine hP _ _ (fun _ => ?_) | refine hP _ _ (by kernel_rfl) (fun _ => ?_)); clear hQ hP Q) | refine GW_block ?_ | refine GW_ret ?_ | refine GW_skip ?_ | refine GW_exit ?_ | refine GW_goto ?_ | refine GW_label ?_ | simp only [blockG_exit] | (refine GW_cond (by simp; rfl) ?_ ?_ <;> (intro hb; first | (exfalso; exact absurd hb (by decide)) | skip)))
        refine ⟨.inr trivial, ?_⟩
        simp [Tryd.results16, eaV]
      · have e := wyE_2 (v2 := v2) c0 c1
        rw [e, c2]
        repeat' (first | refine GW_seq ?_ | refine GWL_start ?_ | refine GWL_step ?_ | simp only [List.length_cons, List.length_nil, Nat.reduceAdd, Nat.reduceMul, wN] | ((first | refine GW_region' [] (by kernel_rfl) ?_ | refine GW_draw' [] follows (by kernel_rfl) (by kernel_rfl) ?_); intro Q hQ hP; simp [hC, hY, h0, h1, h2, hn, hd, c0, c1, c2]; (first | refine hQ _ _ _ _ ?_ | refine hQ _ _ _ _ (by kernel_rfl) ?_ | refine hP _ _ (fun _ => ?_) | refine hP _ _ (by kernel_rfl) (fun _ => ?_)); clear hQ hP Q) | refine GW_block ?_ | refine GW_ret ?_ | refine GW_skip ?_ | refine GW_exit ?_ | refine GW_goto ?_ | refine GW_label ?_ | simp only [blockG_exit] | (refine GW_cond (by simp; rfl) ?_ ?_ <;> (intro hb; first | (exfalso; exact absurd hb (by decide)) | skip)))
        refine ⟨.inr trivial, ?_⟩
        simp [Tryd.results16, eaV]
    · have e := wyE_1 (v2 := v2) c0 c1
      rw [e]
      repeat' (first | refine GW_seq ?_ | refine GWL_start ?_ | refine GWL_step ?_ | simp only [List.length_cons, List.length_nil, Nat.reduceAdd, Nat.reduceMul, wN] | ((first | refine GW_region' [] (by kernel_rfl) ?_ | refine GW_draw' [] follows (by kernel_rfl) (by kernel_rfl) ?_); intro Q hQ hP; simp [hC, hY, h0, h1, h2, hn, hd, c0, c1]; (first | refine hQ _ _ _ _ ?_ | refine hQ _ _ _ _ (by kernel_rfl) ?_ | refine hP _ _ (fun _ => ?_) | refine hP _ _ (by kernel_rfl) (fun _ => ?_)); clear hQ hP Q) | refine GW_block ?_ | refine GW_ret ?_ | refine GW_skip ?_ | refine GW_exit ?_ | refine GW_goto ?_ | refine GW_label ?_ | simp only [blockG_exit] | (refine GW_cond (by simp; rfl) ?_ ?_ <;> (intro hb; first | (exfalso; exact absurd hb (by decide)) | skip)))
      refine ⟨.inr trivial, ?_⟩
      simp [Tryd.results16, eaV]
  · have e := wyE_0 (v1 := v1) (v2 := v2) c0
    rw [e]
    repeat' (first | refine GW_seq ?_ | refine GWL_start ?_ | refine GWL_step ?_ | simp only [List.length_cons, List.length_nil, Nat.reduceAdd, Nat.reduceMul, wN] | ((first | refine GW_region' [] (by kernel_rfl) ?_ | refine GW_draw' [] follows (by kernel_rfl) (by kernel_rfl) ?_); intro Q hQ hP; simp [hC, hY, h0, h1, h2, hn, hd, c0]; (first | refine hQ _ _ _ _ ?_ | refine hQ _ _ _ _ (by kernel_rfl) ?_ | refine hP _ _ (fun _ => ?_) | refine hP _ _ (by kernel_rfl) (fun _ => ?_)); clear hQ hP Q) | refine GW_block ?_ | refine GW_ret ?_ | refine GW_skip ?_ | refine GW_exit ?_ | refine GW_goto ?_ | refine GW_label ?_ | simp only [blockG_exit] | (refine GW_cond (by simp; rfl) ?_ ?_ <;> (intro hb; first | (exfalso; exact absurd hb (by decide)) | skip)))
    refine ⟨.inr trivial, ?_⟩
    simp [Tryd.results16, eaV]
@[simp] theorem dway15 (v0 v1 v2 n d : Int) (h0 : i64 v0) (h1 : i64 v1) (h2 : i64 v2) (hn : i64 n) (hd : i64 d) (K : Value → Prop) : callK Tryd.prog G0 16 #[.agg #[.int .i64 v0, .int .i64 v1, .int .i64 v2], .int .i64 n, .int .i64 d] K ↔
    K (.tuple #[.agg #[.int .i64 (eaV (wyE v0 v1 v2 n d) (d1V v0 n d)), .int .i64 (eaV (wyE v0 v1 v2 n d) (d1V v1 n d)), .int .i64 (eaV (wyE v0 v1 v2 n d) (d1V v2 n d))], .int .i64 (wyE v0 v1 v2 n d)]) := callK_iff G0W (by kernel_rfl) (way15_ret v0 v1 v2 n d h0 h1 h2 hn hd)
/-- drift.ways's first closure. -/
theorem dw1_fun (v0 v1 v2 n d : Int) (h0 : i64 v0) (h1 : i64 v1) (h2 : i64 v2) (hn : i64 n) (hd : i64 d) : Fun Tryd.prog G0 79 #[.agg #[.int .i64 v0, .int .i64 v1, .int .i64 v2], .pointer (some ⟨100, 0, none⟩), .pointer (some ⟨108, 0, none⟩)] (hpL G0 [(100, jb n), (108, jb d)]) (keys [(100, jb n), (108, jb d)])
    (.ret (.agg #[.int .i64 (eaV (wyE v0 v1 v2 n d) (d1V v0 n d)), .int .i64 (eaV (wyE v0 v1 v2 n d) (d1V v1 n d)), .int .i64 (eaV (wyE v0 v1 v2 n d) (d1V v2 n d))]) []) := by
  refine fun_ofL (B := 200) G0F Tryd.func79 rfl Tryd.call79 ⟨by simp, by simp [keys], by simp [jb, ids_lit, idsF, ids0]⟩ ?_ (by simp) (by simp) (by simp) (by simp [Tryd.ntmps79]) (by omega) ?_
  · simp [idsV, idsA, idsF, ids0, keys]
  intro C hC hC0 hY
  repeat' (first | refine GW_seq ?_ | simp only [List.length_cons, List.length_nil, Nat.reduceAdd, Nat.reduceMul, wN] | ((first | refine GW_region' [] (by kernel_rfl) ?_ | refine GW_draw' [] follows (by kernel_rfl) (by kernel_rfl) ?_); intro Q hQ hP; simp [hC, hY, jb, h0, h1, h2, hn, hd]; (first | refine hQ _ _ _ _ ?_ | refine hQ _ _ _ _ (by kernel_rfl) ?_ | refine hP _ _ (fun _ => ?_) | refine hP _ _ (by kernel_rfl) (fun _ => ?_)); clear hQ hP Q) | refine GW_block ?_ | refine GW_ret ?_ | refine GW_skip ?_ | refine GW_exit ?_ | refine GW_goto ?_ | refine GW_label ?_ | simp only [blockG_exit] | (refine GW_cond (by simp; rfl) ?_ ?_ <;> (intro hb; first | (exfalso; exact absurd hb (by decide)) | skip)))
  refine ⟨.inr rfl, by simp [Tryd.results79], keep_of G0F (by simp [jb]) (by (intro k hk; first | rfl | (simp (disch := omega) only [addB, List.mem_cons, List.not_mem_nil, or_false, upd_other, hpL_cons, hpL_nil, if_neg, updL] <;> done)))⟩
theorem within9_ret (x0 x1 x2 m : Int) (hm : i64 m) : Ret Tryd.prog G0 50 #[.agg #[.int .i64 x0, .int .i64 x1, .int .i64 x2], .int .i64 m] (.bool (decide (inW m x0 ∧ inW m x1 ∧ inW m x2))) := by
  refine ret_of G0F Tryd.func50 rfl Tryd.call50 rfl (by simp) (by simp [Tryd.ntmps50]) ?_
  intro C hC hC0 hY
  by_cases q : m < 0
  · have e : decide (inW m x0 ∧ inW m x1 ∧ inW m x2) = false := decide_eq_false (by unfold inW; omega)
    rw [e]
    repeat' (first | refine GW_seq ?_ | refine GWL_start ?_ | refine GWL_step ?_ | simp only [List.length_cons, List.length_nil, Nat.reduceAdd, Nat.reduceMul, wN] | ((first | refine GW_region' [] (by kernel_rfl) ?_ | refine GW_draw' [] follows (by kernel_rfl) (by kernel_rfl) ?_); intro Q hQ hP; simp [hC, hY, q]; (first | refine hQ _ _ _ _ ?_ | refine hQ _ _ _ _ (by kernel_rfl) ?_ | refine hP _ _ (fun _ => ?_) | refine hP _ _ (by kernel_rfl) (fun _ => ?_)); clear hQ hP Q) | refine GW_block ?_ | refine GW_ret ?_ | refine GW_skip ?_ | refine GW_exit ?_ | refine GW_goto ?_ | refine GW_label ?_ | simp only [blockG_exit] | (refine GW_cond (by simp; rfl) ?_ ?_ <;> (intro hb; first | (exfalso; exact absurd hb (by decide)) | skip)))
    refine ⟨.inr trivial, ?_⟩
    simp [Tryd.results50]
  · have hbm := neg_in hm (Int.not_lt.1 q)
    rcases Classical.em (m < x0) with a0 | a0
    · have e : decide (inW m x0 ∧ inW m x1 ∧ inW m x2) = false := decide_eq_false (by unfold inW; omega)
      rw [e]
      repeat' (first | refine GW_seq ?_ | refine GWL_start ?_ | refine GWL_step ?_ | simp only [List.length_cons, List.length_nil, Nat.reduceAdd, Nat.reduceMul, wN] | ((first | refine GW_region' [] (by kernel_rfl) ?_ | refine GW_draw' [] follows (by kernel_rfl) (by kernel_rfl) ?_); intro Q hQ hP; simp [hC, hY, q, hbm, a0]; (first | refine hQ _ _ _ _ ?_ | refine hQ _ _ _ _ (by kernel_rfl) ?_ | refine hP _ _ (fun _ => ?_) | refine hP _ _ (by kernel_rfl) (fun _ => ?_)); clear hQ hP Q) | refine GW_block ?_ | refine GW_ret ?_ | refine GW_skip ?_ | refine GW_exit ?_ | refine GW_goto ?_ | refine GW_label ?_ | simp only [blockG_exit] | (refine GW_cond (by simp; rfl) ?_ ?_ <;> (intro hb; first | (exfalso; exact absurd hb (by decide)) | skip)))
      refine ⟨.inr trivial, ?_⟩
      simp [Tryd.results50]
    rcases Classical.em (x0 < -m) with b0 | b0
    · have e : decide (inW m x0 ∧ inW m x1 ∧ inW m x2) = false := decide_eq_false (by unfold inW; omega)
      rw [e]
      repeat' (first | refine GW_seq ?_ | refine GWL_start ?_ | refine GWL_step ?_ | simp only [List.length_cons, List.length_nil, Nat.reduceAdd, Nat.reduceMul, wN] | ((first | refine GW_region' [] (by kernel_rfl) ?_ | refine GW_draw' [] follows (by kernel_rfl) (by kernel_rfl) ?_); intro Q hQ hP; simp [hC, hY, q, hbm, a0, b0]; (first | refine hQ _ _ _ _ ?_ | refine hQ _ _ _ _ (by kernel_rfl) ?_ | refine hP _ _ (fun _ => ?_) | refine hP _ _ (by kernel_rfl) (fun _ => ?_)); clear hQ hP Q) | refine GW_block ?_ | refine GW_ret ?_ | refine GW_skip ?_ | refine GW_exit ?_ | refine GW_goto ?_ | refine GW_label ?_ | simp only [blockG_exit] | (refine GW_cond (by simp; rfl) ?_ ?_ <;> (intro hb; first | (exfalso; exact absurd hb (by decide)) | skip)))
      refine ⟨.inr trivial, ?_⟩
      simp [Tryd.results50]
    rcases Classical.em (m < x1) with a1 | a1
    · have e : decide (inW m x0 ∧ inW m x1 ∧ inW m x2) = false := decide_eq_false (by unfold inW; omega)
      rw [e]
      repeat' (first | refine GW_seq ?_ | refine GWL_start ?_ | refine GWL_step ?_ | simp only [List.length_cons, List.length_nil, Nat.reduceAdd, Nat.reduceMul, wN] | ((first | refine GW_region' [] (by kernel_rfl) ?_ | refine GW_draw' [] follows (by kernel_rfl) (by kernel_rfl) ?_); intro Q hQ hP; simp [hC, hY, q, hbm, a0, b0, a1]; (first | refine hQ _ _ _ _ ?_ | refine hQ _ _ _ _ (by kernel_rfl) ?_ | refine hP _ _ (fun _ => ?_) | refine hP _ _ (by kernel_rfl) (fun _ => ?_)); clear hQ hP Q) | refine GW_block ?_ | refine GW_ret ?_ | refine GW_skip ?_ | refine GW_exit ?_ | refine GW_goto ?_ | refine GW_label ?_ | simp only [blockG_exit] | (refine GW_cond (by simp; rfl) ?_ ?_ <;> (intro hb; first | (exfalso; exact absurd hb (by decide)) | skip)))
      refine ⟨.inr trivial, ?_⟩
      simp [Tryd.results50]
    rcases Classical.em (x1 < -m) with b1 | b1
    · have e : decide (inW m x0 ∧ inW m x1 ∧ inW m x2) = false := decide_eq_false (by unfold inW; omega)
      rw [e]
      repeat' (first | refine GW_seq ?_ | refine GWL_start ?_ | refine GWL_step ?_ | simp only [List.length_cons, List.length_nil, Nat.reduceAdd, Nat.reduceMul, wN] | ((first | refine GW_region' [] (by kernel_rfl) ?_ | refine GW_draw' [] follows (by kernel_rfl) (by kernel_rfl) ?_); intro Q hQ hP; simp [hC, hY, q, hbm, a0, b0, a1, b1]; (first | refine hQ _ _ _ _ ?_ | refine hQ _ _ _ _ (by kernel_rfl) ?_ | refine hP _ _ (fun _ => ?_) | refine hP _ _ (by kernel_rfl) (fun _ => ?_)); clear hQ hP Q) | refine GW_block ?_ | refine GW_ret ?_ | refine GW_skip ?_ | refine GW_exit ?_ | refine GW_goto ?_ | refine GW_label ?_ | simp only [blockG_exit] | (refine GW_cond (by simp; rfl) ?_ ?_ <;> (intro hb; first | (exfalso; exact absurd hb (by decide)) | skip)))
      refine ⟨.inr trivial, ?_⟩
      simp [Tryd.results50]
    rcases Classical.em (m < x2) with a2 | a2
    · have e : decide (inW m x0 ∧ inW m x1 ∧ inW m x2) = false := decide_eq_false (by unfold inW; omega)
      rw [e]
      repeat' (first | refine GW_seq ?_ | refine GWL_start ?_ | refine GWL_step ?_ | simp only [List.length_cons, List.length_nil, Nat.reduceAdd, Nat.reduceMul, wN] | ((first | refine GW_region' [] (by kernel_rfl) ?_ | refine GW_draw' [] follows (by kernel_rfl) (by kernel_rfl) ?_); intro Q hQ hP; simp [hC, hY, q, hbm, a0, b0, a1, b1, a2]; (first | refine hQ _ _ _ _ ?_ | refine hQ _ _ _ _ (by kernel_rfl) ?_ | refine hP _ _ (fun _ => ?_) | refine hP _ _ (by kernel_rfl) (fun _ => ?_)); clear hQ hP Q) | refine GW_block ?_ | refine GW_ret ?_ | refine GW_skip ?_ | refine GW_exit ?_ | refine GW_goto ?_ | refine GW_label ?_ | simp only [blockG_exit] | (refine GW_cond (by simp; rfl) ?_ ?_ <;> (intro hb; first | (exfalso; exact absurd hb (by decide)) | skip)))
      refine ⟨.inr trivial, ?_⟩
      simp [Tryd.results50]
    rcases Classical.em (x2 < -m) with b2 | b2
    · have e : decide (inW m x0 ∧ inW m x1 ∧ inW m x2) = false := decide_eq_false (by unfold inW; omega)
      rw [e]
      repeat' (first | refine GW_seq ?_ | refine GWL_start ?_ | refine GWL_step ?_ | simp only [List.length_cons, List.length_nil, Nat.reduceAdd, Nat.reduceMul, wN] | ((first | refine GW_region' [] (by kernel_rfl) ?_ | refine GW_draw' [] follows (by kernel_rfl) (by kernel_rfl) ?_); intro Q hQ hP; simp [hC, hY, q, hbm, a0, b0, a1, b1, a2, b2]; (first | refine hQ _ _ _ _ ?_ | refine hQ _ _ _ _ (by kernel_rfl) ?_ | refine hP _ _ (fun _ => ?_) | refine hP _ _ (by kernel_rfl) (fun _ => ?_)); clear hQ hP Q) | refine GW_block ?_ | refine GW_ret ?_ | refine GW_skip ?_ | refine GW_exit ?_ | refine GW_goto ?_ | refine GW_label ?_ | simp only [blockG_exit] | (refine GW_cond (by simp; rfl) ?_ ?_ <;> (intro hb; first | (exfalso; exact absurd hb (by decide)) | skip)))
      refine ⟨.inr trivial, ?_⟩
      simp [Tryd.results50]
    have e : decide (inW m x0 ∧ inW m x1 ∧ inW m x2) = true := decide_eq_true (by unfold inW; omega)
    rw [e]
    repeat' (first | refine GW_seq ?_ | refine GWL_start ?_ | refine GWL_step ?_ | simp only [List.length_cons, List.length_nil, Nat.reduceAdd, Nat.reduceMul, wN] | ((first | refine GW_region' [] (by kernel_rfl) ?_ | refine GW_draw' [] follows (by kernel_rfl) (by kernel_rfl) ?_); intro Q hQ hP; simp [hC, hY, q, hbm, a0, b0, a1, b1, a2, b2]; (first | refine hQ _ _ _ _ ?_ | refine hQ _ _ _ _ (by kernel_rfl) ?_ | refine hP _ _ (fun _ => ?_) | refine hP _ _ (by kernel_rfl) (fun _ => ?_)); clear hQ hP Q) | refine GW_block ?_ | refine GW_ret ?_ | refine GW_skip ?_ | refine GW_exit ?_ | refine GW_goto ?_ | refine GW_label ?_ | simp only [blockG_exit] | (refine GW_cond (by simp; rfl) ?_ ?_ <;> (intro hb; first | (exfalso; exact absurd hb (by decide)) | skip)))
    refine ⟨.inr trivial, ?_⟩
    simp [Tryd.results50]
@[simp] theorem within9 (x0 x1 x2 m : Int) (hm : i64 m) (K : Value → Prop) : callK Tryd.prog G0 50 #[.agg #[.int .i64 x0, .int .i64 x1, .int .i64 x2], .int .i64 m] K ↔ K (.bool (inV m x0 x1 x2)) := callK_iff G0W (by kernel_rfl) (within9_ret x0 x1 x2 m hm)
end Go.Gy
namespace Go.Gy
set_option linter.unusedSimpArgs false
set_option linter.unusedVariables false
open Go Go.RowKit Go.Proofs
/-- A state's bodies: n of them, in block b from off on. -/
structure SB (b : Blk) (off n : Nat) (f : Nat → Int) : Prop where
  rd : rdI b off (6 * n) f
  fx : b.fx
  i6 : ∀ j, j < 6 * n → i64 (f j)
  nn : n ≤ 2932031007402
/-- Body i is within. -/
def inB (bx tp : Int) (f : Nat → Int) (i : Nat) : Bool := inV bx (f (6 * i)) (f (6 * i + 1)) (f (6 * i + 2)) && inV tp (f (6 * i + 3)) (f (6 * i + 4)) (f (6 * i + 5))
theorem SB.body {b : Blk} {off n : Nat} {f : Nat → Int} (h : SB b off n f) {i : Nat} (hi : i < n) : loadK Tryd.prog 44 b (off + i * 6) = some (.agg #[.int .i64 (f (6 * i)), .int .i64 (f (6 * i + 1)), .int .i64 (f (6 * i + 2)), .int .i64 (f (6 * i + 3)), .int .i64 (f (6 * i + 4)), .int .i64 (f (6 * i + 5))]) := by
  have := loadK_rd (P := Tryd.prog) (T := 44) (m := 6) (j := 6 * i) (tyAgg_of Tryd.isAgg44) (tySize_of Tryd.sizeOf44) (by omega) h.rd (by omega)
  rw [show off + i * 6 = off + 6 * i by omega, this, fa_6]
  rfl
theorem SB.i {b : Blk} {off n : Nat} {f : Nat → Int} (h : SB b off n f) {i : Nat} (hi : i < n) (q : Nat) (hq : q < 6) : i64 (f (6 * i + q)) := h.i6 _ (by omega)
/-! Within's closure -/
theorem wi1_fun (bx tp x0 x1 x2 v0 v1 v2 : Int) (hbx : i64 bx) (htp : i64 tp) (h0 : i64 x0) (h1 : i64 x1) (h2 : i64 x2) (h3 : i64 v0) (h4 : i64 v1) (h5 : i64 v2) :
    Fun Tryd.prog G0 111 #[.agg #[.int .i64 x0, .int .i64 x1, .int .i64 x2, .int .i64 v0, .int .i64 v1, .int .i64 v2], .pointer (some ⟨100, 0, none⟩), .pointer (some ⟨108, 0, none⟩)] (hpL G0 [(100, jb bx), (108, jb tp)]) (keys [(100, jb bx), (108, jb tp)]) (.ret (.bool !(inV bx x0 x1 x2 && inV tp v0 v1 v2)) []) := by
  refine fun_ofL (B := 200) G0F Tryd.func111 rfl Tryd.call111 ⟨by simp, by simp [keys], by simp [jb, ids_lit, idsF, ids0]⟩ ?_ (by simp) (by simp) (by simp) (by simp [Tryd.ntmps111]) (by omega) ?_
  · simp [idsV, idsA, idsF, ids0, keys]
  intro C hC hC0 hY
  cases c0 : inV bx x0 x1 x2 with
  | true =>
    cases c1 : inV tp v0 v1 v2 with
    | true =>
      repeat' (first | refine GW_seq ?_ | simp only [List.length_cons, List.length_nil, Nat.reduceAdd, Nat.reduceMul, wN] | ((first | refine GW_region' [] (by kernel_rfl) ?_ | refine GW_draw' [] follows (by kernel_rfl) (by kernel_rfl) ?_); intro Q hQ hP; simp [hC, hY, jb, hbx, htp, h0, h1, h2, h3, h4, h5, c0, c1]; (first | refine hQ _ _ _ _ ?_ | refine hQ _ _ _ _ (by kernel_rfl) ?_ | refine hP _ _ (fun _ => ?_) | refine hP _ _ (by kernel_rfl) (fun _ => ?_)); clear hQ hP Q) | refine GW_block ?_ | refine GW_ret ?_ | refine GW_skip ?_ | refine GW_exit ?_ | refine GW_goto ?_ | refine GW_label ?_ | simp only [blockG_exit] | (refine GW_cond (by simp; rfl) ?_ ?_ <;> (intro hb; first | (exfalso; exact absurd hb (by decide)) | skip)))
      refine ⟨.inr rfl, by simp [Tryd.results111], keep_of G0F (by simp [jb]) (by (intro k hk; first | rfl | (simp (disch := omega) only [addB, List.mem_cons, List.not_mem_nil, or_false, upd_other, hpL_cons, hpL_nil, if_neg, updL] <;> done)))⟩
    | false =>
      repeat' (first | refine GW_seq ?_ | simp only [List.length_cons, List.length_nil, Nat.reduceAdd, Nat.reduceMul, wN] | ((first | refine GW_region' [] (by kernel_rfl) ?_ | refine GW_draw' [] follows (by kernel_rfl) (by kernel_rfl) ?_); intro Q hQ hP; simp [hC, hY, jb, hbx, htp, h0, h1, h2, h3, h4, h5, c0, c1]; (first | refine hQ _ _ _ _ ?_ | refine hQ _ _ _ _ (by kernel_rfl) ?_ | refine hP _ _ (fun _ => ?_) | refine hP _ _ (by kernel_rfl) (fun _ => ?_)); clear hQ hP Q) | refine GW_block ?_ | refine GW_ret ?_ | refine GW_skip ?_ | refine GW_exit ?_ | refine GW_goto ?_ | refine GW_label ?_ | simp only [blockG_exit] | (refine GW_cond (by simp; rfl) ?_ ?_ <;> (intro hb; first | (exfalso; exact absurd hb (by decide)) | skip)))
      refine ⟨.inr rfl, by simp [Tryd.results111], keep_of G0F (by simp [jb]) (by (intro k hk; first | rfl | (simp (disch := omega) only [addB, List.mem_cons, List.not_mem_nil, or_false, upd_other, hpL_cons, hpL_nil, if_neg, updL] <;> done)))⟩
  | false =>
    repeat' (first | refine GW_seq ?_ | simp only [List.length_cons, List.length_nil, Nat.reduceAdd, Nat.reduceMul, wN] | ((first | refine GW_region' [] (by kernel_rfl) ?_ | refine GW_draw' [] follows (by kernel_rfl) (by kernel_rfl) ?_); intro Q hQ hP; simp [hC, hY, jb, hbx, htp, h0, h1, h2, h3, h4, h5, c0]; (first | refine hQ _ _ _ _ ?_ | refine hQ _ _ _ _ (by kernel_rfl) ?_ | refine hP _ _ (fun _ => ?_) | refine hP _ _ (by kernel_rfl) (fun _ => ?_)); clear hQ hP Q) | refine GW_block ?_ | refine GW_ret ?_ | refine GW_skip ?_ | refine GW_exit ?_ | refine GW_goto ?_ | refine GW_label ?_ | simp only [blockG_exit] | (refine GW_cond (by simp; rfl) ?_ ?_ <;> (intro hb; first | (exfalso; exact absurd hb (by decide)) | skip)))
    refine ⟨.inr rfl, by simp [Tryd.results111], keep_of G0F (by simp [jb]) (by (intro k hk; first | rfl | (simp (disch := omega) only [addB, List.mem_cons, List.not_mem_nil, or_false, upd_other, hpL_cons, hpL_nil, if_neg, updL] <;> done)))⟩
theorem jb_rn {m : Int} {ρ : Nat → Nat} : (jb m).rn ρ = jb m := by simp [jb, Blk.rn, renF, ren0]
/-! IndexFunc -/
def ixSt (b : Blk) (off n cap : Nat) (bx tp : Int) (i : Nat) : GS :=
  ⟨tsL [(0, .slice (some ⟨100, off, none⟩) n cap), (1, .func (.func 111) #[] #[.pointer (some ⟨108, 0, none⟩), .pointer (some ⟨116, 0, none⟩)]), (7, .int .i64 n), (8, .int .i64 i)],
   hpL G0 [(100, b), (108, jb bx), (116, jb tp)], 300, 0⟩
def ixL (b : Blk) (bx tp : Int) : List (Nat × Blk) := [(100, b), (108, jb bx), (116, jb tp)]
theorem ixL_ok {b : Blk} (hb : b.fx) (bx tp : Int) : LOk (ixL b bx tp) 200 := ⟨by simp [ixL], by simp [ixL, keys], by
  simp only [ixL, List.mem_cons, List.not_mem_nil, or_false, forall_eq_or_imp, forall_eq]
  exact ⟨Blk.fx_ids hb _, by simp [jb, ids_lit, idsF, ids0], by simp [jb, ids_lit, idsF, ids0]⟩⟩
theorem ix_fun (b : Blk) (off n cap : Nat) (f : Nat → Int) (h : SB b off n f) (bx tp : Int) (hbx : i64 bx) (htp : i64 tp) (N : Nat) (hN : N ≤ n) (hlt : ∀ i, i < N → inB bx tp f i = true) (hend : N = n ∨ inB bx tp f N = false) :
    Fun Tryd.prog G0 129 #[.slice (some ⟨100, off, none⟩) n cap, .func (.func 111) #[] #[.pointer (some ⟨108, 0, none⟩), .pointer (some ⟨116, 0, none⟩)]] (hpL G0 (ixL b bx tp)) (keys (ixL b bx tp)) (.ret (.int .i64 (if N = n then -1 else N)) []) := by
  refine fun_ofL (B := 200) G0F Tryd.func129 rfl Tryd.call129 (ixL_ok h.fx bx tp) ?_ (by simp) (by simp) (by simp) (by simp [Tryd.ntmps129]) (by omega) ?_
  · simp [idsV, idsA, idsF, ids0, keys, ixL]
  intro C hC hC0 hY
  have hnn := h.nn
  unfold ixL
  repeat' (first | refine GW_seq ?_ | simp only [List.length_cons, List.length_nil, Nat.reduceAdd, Nat.reduceMul, wN] | ((first | refine GW_region' [] (by kernel_rfl) ?_ | refine GW_draw' [] follows (by kernel_rfl) (by kernel_rfl) ?_); intro Q hQ hP; simp [hC, hY]; (first | refine hQ _ _ _ _ ?_ | refine hQ _ _ _ _ (by kernel_rfl) ?_ | refine hP _ _ (fun _ => ?_) | refine hP _ _ (by kernel_rfl) (fun _ => ?_)); clear hQ hP Q) | refine GW_block ?_ | refine GW_ret ?_ | refine GW_skip ?_ | refine GW_exit ?_ | refine GW_goto ?_ | refine GW_label ?_ | simp only [blockG_exit] | (refine GW_cond (by simp; rfl) ?_ ?_ <;> (intro hb; first | (exfalso; exact absurd hb (by decide)) | skip)))
  refine GW_for N (ixSt b off n cap bx tp) ?_ ?_ ?_
  · refine weakL _ 300 hC G0F (m0 := [(100, b), (108, jb bx), (116, jb tp)]) hC0 (by omega) ?_ ?_ ?_
    · simp [idsV, idsA, idsF, ids0, dom]
    · have hi := fun D => Blk.fx_ids h.fx D
      simp [ids_lit, idsF, ids0, jb, hi]
    · simp
  · intro i hi
    have hin : i < n := by omega
    have hi' : (i : Int) < n := by omega
    have hz : (0 : Int) ≤ i := by omega
    have hs : Int.bmod ((i : Int) + 1) 18446744073709551616 = ((i + 1 : Nat) : Int) := by rw [bm (by omega) (by omega)]; rfl
    have hld := h.body hin
    have hq := hlt i hi
    unfold inB at hq
    rw [Bool.and_eq_true] at hq
    obtain ⟨q1, q2⟩ := hq
    unfold ixSt
    repeat' (first | refine GW_seq ?_ | simp only [List.length_cons, List.length_nil, Nat.reduceAdd, Nat.reduceMul, wN] | ((first | refine GW_region' [111] (by kernel_rfl) ?_ | refine GW_draw' [111] follows (by kernel_rfl) (by kernel_rfl) ?_); intro Q hQ hP; simp [hC, hY, hi, hi', hz, hs, hld, q1, q2, jb]; (repeat ((first | (refine heapK_mv (wi1_fun bx tp _ _ _ _ _ _ hbx htp (h.i hin 0 (by omega)) (h.i hin 1 (by omega)) (h.i hin 2 (by omega)) (h.i hin 3 (by omega)) (h.i hin 4 (by omega)) (h.i hin 5 (by omega))) G0F (B := 200) ⟨by simp, by simp [keys], by simp [jb, ids_lit, idsF, ids0]⟩ (fun k => if k = 100 then 108 else if k = 108 then 116 else k) (fun k hk => (if_neg (by omega)).trans (if_neg (by omega))) (by simp [ren, renA, renF, ren0]) (by simp) (by simp [jb, Blk.rn, renF, ren0]) (by simp [keys]) (by simp [keys]; rfl) ?_)); try simp [hC, hY, hi, hi', hz, hs, hld, q1, q2, jb])); (first | refine hQ _ _ _ _ ?_ | refine hQ _ _ _ _ (by kernel_rfl) ?_ | refine hP _ _ (fun _ => ?_) | refine hP _ _ (by kernel_rfl) (fun _ => ?_)); clear hQ hP Q) | refine GW_block ?_ | refine GW_ret ?_ | refine GW_skip ?_ | refine GW_exit ?_ | refine GW_goto ?_ | refine GW_label ?_ | simp only [blockG_exit] | (refine GW_cond (by simp; rfl) ?_ ?_ <;> (intro hb; first | (exfalso; exact absurd hb (by decide)) | skip)))
    refine weakL _ 300 hC G0F (m0 := [(100, b), (108, jb bx), (116, jb tp)]) hC0 (by omega) ?_ ?_ ?_
    · simp [idsV, idsA, idsF, ids0, dom, hs]
    · have hi := fun D => Blk.fx_ids h.fx D
      simp [ids_lit, idsF, ids0, jb, hi]
    · simp [jb]
  · by_cases hNn : N = n
    · subst hNn
      simp only [if_true]
      unfold ixSt
      repeat' (first | refine GW_seq ?_ | simp only [List.length_cons, List.length_nil, Nat.reduceAdd, Nat.reduceMul, wN] | ((first | refine GW_region' [] (by kernel_rfl) ?_ | refine GW_draw' [] follows (by kernel_rfl) (by kernel_rfl) ?_); intro Q hQ hP; simp [hC, hY]; (first | refine hQ _ _ _ _ ?_ | refine hQ _ _ _ _ (by kernel_rfl) ?_ | refine hP _ _ (fun _ => ?_) | refine hP _ _ (by kernel_rfl) (fun _ => ?_)); clear hQ hP Q) | refine GW_block ?_ | refine GW_ret ?_ | refine GW_skip ?_ | refine GW_exit ?_ | refine GW_goto ?_ | refine GW_label ?_ | simp only [blockG_exit] | (refine GW_cond (by simp; rfl) ?_ ?_ <;> (intro hb; first | (exfalso; exact absurd hb (by decide)) | skip)))
      refine ⟨.inr rfl, by simp [Tryd.results129], keep_of G0F (by simp) (by (intro k hk; first | rfl | (simp (disch := omega) only [addB, List.mem_cons, List.not_mem_nil, or_false, upd_other, hpL_cons, hpL_nil, if_neg, updL] <;> done)))⟩
    · have hin : N < n := by omega
      have hi' : (N : Int) < n := by omega
      have hz : (0 : Int) ≤ N := by omega
      have hld := h.body hin
      have hq := hend.resolve_left hNn
      unfold inB at hq
      rw [if_neg hNn]
      unfold ixSt
      cases q1 : inV bx (f (6 * N)) (f (6 * N + 1)) (f (6 * N + 2)) with
      | false =>
        repeat' (first | refine GW_seq ?_ | simp only [List.length_cons, List.length_nil, Nat.reduceAdd, Nat.reduceMul, wN] | ((first | refine GW_region' [111] (by kernel_rfl) ?_ | refine GW_draw' [111] follows (by kernel_rfl) (by kernel_rfl) ?_); intro Q hQ hP; simp [hC, hY, hin, hi', hz, hld, q1, jb]; (repeat ((first | (refine heapK_mv (wi1_fun bx tp _ _ _ _ _ _ hbx htp (h.i hin 0 (by omega)) (h.i hin 1 (by omega)) (h.i hin 2 (by omega)) (h.i hin 3 (by omega)) (h.i hin 4 (by omega)) (h.i hin 5 (by omega))) G0F (B := 200) ⟨by simp, by simp [keys], by simp [jb, ids_lit, idsF, ids0]⟩ (fun k => if k = 100 then 108 else if k = 108 then 116 else k) (fun k hk => (if_neg (by omega)).trans (if_neg (by omega))) (by simp [ren, renA, renF, ren0]) (by simp) (by simp [jb, Blk.rn, renF, ren0]) (by simp [keys]) (by simp [keys]; rfl) ?_)); try simp [hC, hY, hin, hi', hz, hld, q1, jb])); (first | refine hQ _ _ _ _ ?_ | refine hQ _ _ _ _ (by kernel_rfl) ?_ | refine hP _ _ (fun _ => ?_) | refine hP _ _ (by kernel_rfl) (fun _ => ?_)); clear hQ hP Q) | refine GW_block ?_ | refine GW_ret ?_ | refine GW_skip ?_ | refine GW_exit ?_ | refine GW_goto ?_ | refine GW_label ?_ | simp only [blockG_exit] | (refine GW_cond (by simp; rfl) ?_ ?_ <;> (intro hb; first | (exfalso; exact absurd hb (by decide)) | skip)))
        refine ⟨.inr rfl, by simp [Tryd.results129], keep_of G0F (by simp [jb]) (by (intro k hk; first | rfl | (simp (disch := omega) only [addB, List.mem_cons, List.not_mem_nil, or_false, upd_other, hpL_cons, hpL_nil, if_neg, updL] <;> done)))⟩
      | true =>
        have q2 : inV tp (f (6 * N + 3)) (f (6 * N + 4)) (f (6 * N + 5)) = false := by rw [q1] at hq; simpa using hq
        repeat' (first | refine GW_seq ?_ | simp only [List.length_cons, List.length_nil, Nat.reduceAdd, Nat.reduceMul, wN] | ((first | refine GW_region' [111] (by kernel_rfl) ?_ | refine GW_draw' [111] follows (by kernel_rfl) (by kernel_rfl) ?_); intro Q hQ hP; simp [hC, hY, hin, hi', hz, hld, q1, q2, jb]; (repeat ((first | (refine heapK_mv (wi1_fun bx tp _ _ _ _ _ _ hbx htp (h.i hin 0 (by omega)) (h.i hin 1 (by omega)) (h.i hin 2 (by omega)) (h.i hin 3 (by omega)) (h.i hin 4 (by omega)) (h.i hin 5 (by omega))) G0F (B := 200) ⟨by simp, by simp [keys], by simp [jb, ids_lit, idsF, ids0]⟩ (fun k => if k = 100 then 108 else if k = 108 then 116 else k) (fun k hk => (if_neg (by omega)).trans (if_neg (by omega))) (by simp [ren, renA, renF, ren0]) (by simp) (by simp [jb, Blk.rn, renF, ren0]) (by simp [keys]) (by simp [keys]; rfl) ?_)); try simp [hC, hY, hin, hi', hz, hld, q1, q2, jb])); (first | refine hQ _ _ _ _ ?_ | refine hQ _ _ _ _ (by kernel_rfl) ?_ | refine hP _ _ (fun _ => ?_) | refine hP _ _ (by kernel_rfl) (fun _ => ?_)); clear hQ hP Q) | refine GW_block ?_ | refine GW_ret ?_ | refine GW_skip ?_ | refine GW_exit ?_ | refine GW_goto ?_ | refine GW_label ?_ | simp only [blockG_exit] | (refine GW_cond (by simp; rfl) ?_ ?_ <;> (intro hb; first | (exfalso; exact absurd hb (by decide)) | skip)))
        refine ⟨.inr rfl, by simp [Tryd.results129], keep_of G0F (by simp [jb]) (by (intro k hk; first | rfl | (simp (disch := omega) only [addB, List.mem_cons, List.not_mem_nil, or_false, upd_other, hpL_cons, hpL_nil, if_neg, updL] <;> done)))⟩
/-! ContainsFunc, Within -/
/-- All bodies are within. -/
def allB (bx tp : Int) (f : Nat → Int) (n : Nat) : Bool := (List.range n).all (inB bx tp f)
theorem allB_iff {bx tp : Int} {f : Nat → Int} {n : Nat} : allB bx tp f n = true ↔ ∀ i, i < n → inB bx tp f i = true := by simp [allB]
theorem allB_lead {bx tp : Int} {f : Nat → Int} {n N : Nat} (hN : N ≤ n) (hlt : ∀ i, i < N → inB bx tp f i = true) (hend : N = n ∨ inB bx tp f N = false) : allB bx tp f n = decide (N = n) := by
  by_cases h : N = n
  · subst h; rw [decide_eq_true rfl]; exact allB_iff.2 hlt
  · rw [decide_eq_false h]
    cases hb : allB bx tp f n with
    | false => rfl
    | true => have := allB_iff.1 hb N (by omega); rw [hend.resolve_left h] at this; cases this
theorem leadB (p : Nat → Bool) (m : Nat) : ∃ N, N ≤ m ∧ (∀ i, i < N → p i = true) ∧ (N = m ∨ p N = false) := by
  obtain ⟨N, h1, h2, h3⟩ := lead (fun i => p i = true) m
  exact ⟨N, h1, h2, h3.imp id (fun h => by simpa using h)⟩
theorem cf_fun (b : Blk) (off n cap : Nat) (f : Nat → Int) (h : SB b off n f) (bx tp : Int) (hbx : i64 bx) (htp : i64 tp) :
    Fun Tryd.prog G0 110 #[.slice (some ⟨100, off, none⟩) n cap, .func (.func 111) #[] #[.pointer (some ⟨108, 0, none⟩), .pointer (some ⟨116, 0, none⟩)]] (hpL G0 (ixL b bx tp)) (keys (ixL b bx tp)) (.ret (.bool !(allB bx tp f n)) []) := by
  refine fun_ofL (B := 200) G0F Tryd.func110 rfl Tryd.call110 (ixL_ok h.fx bx tp) ?_ (by simp) (by simp) (by simp) (by simp [Tryd.ntmps110]) (by omega) ?_
  · simp [idsV, idsA, idsF, ids0, keys, ixL]
  intro C hC hC0 hY
  obtain ⟨N, hN, hlt, hend⟩ := leadB (inB bx tp f) n
  rw [allB_lead hN hlt hend]
  have hr := fun ρ => Blk.fx_rn h.fx ρ
  unfold ixL
  by_cases hNn : N = n
  · have hNn' : (decide (N = n)) = true := decide_eq_true hNn
    rw [hNn']
    repeat' (first | refine GW_seq ?_ | simp only [List.length_cons, List.length_nil, Nat.reduceAdd, Nat.reduceMul, wN] | ((first | refine GW_region' [129] (by kernel_rfl) ?_ | refine GW_draw' [129] follows (by kernel_rfl) (by kernel_rfl) ?_); intro Q hQ hP; simp [hC, hY, hNn]; (repeat ((first | (refine heapK_mv (ix_fun b off n cap f h bx tp hbx htp N hN hlt hend) G0F (B := 200) (ixL_ok h.fx bx tp) (fun k => k) (fun k hk => rfl) (by simp [ren, renA, renF, ren0]) (by simp) (by simp [ixL, jb, Blk.rn_id]) (by simp [keys]) (by simp [keys, ixL]; rfl) ?_)); try simp [hC, hY, hNn])); (first | refine hQ _ _ _ _ ?_ | refine hQ _ _ _ _ (by kernel_rfl) ?_ | refine hP _ _ (fun _ => ?_) | refine hP _ _ (by kernel_rfl) (fun _ => ?_)); clear hQ hP Q) | refine GW_block ?_ | refine GW_ret ?_ | refine GW_skip ?_ | refine GW_exit ?_ | refine GW_goto ?_ | refine GW_label ?_ | simp only [blockG_exit] | (refine GW_cond (by simp; rfl) ?_ ?_ <;> (intro hb; first | (exfalso; exact absurd hb (by decide)) | skip)))
    refine ⟨.inr rfl, by simp [Tryd.results110], keep_of G0F (by simp [jb]) (by (intro k hk; first | rfl | (simp (disch := omega) only [addB, List.mem_cons, List.not_mem_nil, or_false, upd_other, hpL_cons, hpL_nil, if_neg, updL] <;> done)))⟩
  · have hNn' : (decide (N = n)) = false := decide_eq_false hNn
    have hz : (0 : Int) ≤ N := by omega
    rw [hNn']
    repeat' (first | refine GW_seq ?_ | simp only [List.length_cons, List.length_nil, Nat.reduceAdd, Nat.reduceMul, wN] | ((first | refine GW_region' [129] (by kernel_rfl) ?_ | refine GW_draw' [129] follows (by kernel_rfl) (by kernel_rfl) ?_); intro Q hQ hP; simp [hC, hY, hNn, hz]; (repeat ((first | (refine heapK_mv (ix_fun b off n cap f h bx tp hbx htp N hN hlt hend) G0F (B := 200) (ixL_ok h.fx bx tp) (fun k => k) (fun k hk => rfl) (by simp [ren, renA, renF, ren0]) (by simp) (by simp [ixL, jb, Blk.rn_id]) (by simp [keys]) (by simp [keys, ixL]; rfl) ?_)); try simp [hC, hY, hNn, hz])); (first | refine hQ _ _ _ _ ?_ | refine hQ _ _ _ _ (by kernel_rfl) ?_ | refine hP _ _ (fun _ => ?_) | refine hP _ _ (by kernel_rfl) (fun _ => ?_)); clear hQ hP Q) | refine GW_block ?_ | refine GW_ret ?_ | refine GW_skip ?_ | refine GW_exit ?_ | refine GW_goto ?_ | refine GW_label ?_ | simp only [blockG_exit] | (refine GW_cond (by simp; rfl) ?_ ?_ <;> (intro hb; first | (exfalso; exact absurd hb (by decide)) | skip)))
    refine ⟨.inr rfl, by simp [Tryd.results110], keep_of G0F (by simp [jb]) (by (intro k hk; first | rfl | (simp (disch := omega) only [addB, List.mem_cons, List.not_mem_nil, or_false, upd_other, hpL_cons, hpL_nil, if_neg, updL] <;> done)))⟩
theorem oneL_ok {b : Blk} (hb : b.fx) : LOk [(100, b)] 200 := ⟨by simp, by simp [keys], by
  simp only [List.mem_singleton, forall_eq]
  exact Blk.fx_ids hb _⟩
theorem swi_fun (b : Blk) (off n cap : Nat) (f : Nat → Int) (h : SB b off n f) (st bx tp : Int) (hbx : i64 bx) (htp : i64 tp) :
    Fun Tryd.prog G0 77 #[.agg #[.int .i64 st, .slice (some ⟨100, off, none⟩) n cap], .int .i64 bx, .int .i64 tp] (hpL G0 [(100, b)]) (keys [(100, b)]) (.ret (.bool (allB bx tp f n)) []) := by
  refine fun_ofL (B := 200) G0F Tryd.func77 rfl Tryd.call77 (oneL_ok h.fx) ?_ (by simp) (by simp) (by simp) (by simp [Tryd.ntmps77]) (by omega) ?_
  · simp [idsV, idsA, idsF, ids0, keys]
  intro C hC hC0 hY
  have hr := fun ρ => Blk.fx_rn h.fx ρ
  repeat' (first | refine GW_seq ?_ | simp only [List.length_cons, List.length_nil, Nat.reduceAdd, Nat.reduceMul, wN] | ((first | refine GW_region' [110] (by kernel_rfl) ?_ | refine GW_draw' [110] follows (by kernel_rfl) (by kernel_rfl) ?_); intro Q hQ hP; simp [hC, hY]; (repeat ((first | (refine heapK_mv (cf_fun b off n cap f h bx tp hbx htp) G0F (B := 200) (ixL_ok h.fx bx tp) (fun k => if k = 108 then 208 else if k = 116 then 216 else k) (fun k hk => (if_neg (by omega)).trans (if_neg (by omega))) (by simp [ren, renA, renF, ren0]) (by simp) (by simp [ixL, hr, jb_rn]; simp [jb]) (by simp [keys, ixL]) (by simp [keys, ixL]; rfl) ?_)); try simp [hC, hY])); (first | refine hQ _ _ _ _ ?_ | refine hQ _ _ _ _ (by kernel_rfl) ?_ | refine hP _ _ (fun _ => ?_) | refine hP _ _ (by kernel_rfl) (fun _ => ?_)); clear hQ hP Q) | refine GW_block ?_ | refine GW_ret ?_ | refine GW_skip ?_ | refine GW_exit ?_ | refine GW_goto ?_ | refine GW_label ?_ | simp only [blockG_exit] | (refine GW_cond (by simp; rfl) ?_ ?_ <;> (intro hb; first | (exfalso; exact absurd hb (by decide)) | skip)))
  refine ⟨.inr rfl, by simp [Tryd.results77], keep_of G0F (by simp [jb]) (by (intro k hk; first | rfl | (simp (disch := omega) only [addB, List.mem_cons, List.not_mem_nil, or_false, upd_other, hpL_cons, hpL_nil, if_neg, updL] <;> done)))⟩
/-! Right -/
def stB (st : Int) : Bool := decide (-1073741824 ≤ st ∧ st ≤ 1073741824)
theorem stB_max (st : Int) (hs : i64 st) : stB st = (decide ((if st < Int.bmod (-st) 18446744073709551616 then Int.bmod (-st) 18446744073709551616 else st) ≤ 1073741824) && decide (-1073741824 ≤ st)) := by
  have h1 := hs.1
  have h2 := hs.2
  unfold stB
  rw [Bool.eq_iff_iff]
  simp only [Bool.and_eq_true, decide_eq_true_eq]
  rw [Int.bmod_def]
  split <;> split <;> omega
/-- The state may be. -/
def rightB (st : Int) (f : Nat → Int) (n : Nat) : Bool := stB st && decide (1 ≤ n ∧ n ≤ 4) && allB 1048576 65536 f n
theorem i64_box : i64 1048576 := by unfold i64; omega
theorem i64_top : i64 65536 := by unfold i64; omega
theorem rig_fun (b : Blk) (off n cap : Nat) (f : Nat → Int) (h : SB b off n f) (st : Int) (hs : i64 st) :
    Fun Tryd.prog G0 44 #[.agg #[.int .i64 st, .slice (some ⟨100, off, none⟩) n cap]] (hpL G0 [(100, b)]) (keys [(100, b)]) (.ret (.bool (rightB st f n)) []) := by
  refine fun_ofL (B := 200) G0F Tryd.func44 rfl Tryd.call44 (oneL_ok h.fx) ?_ (by simp) (by simp) (by simp) (by simp [Tryd.ntmps44]) (by omega) ?_
  · simp [idsV, idsA, idsF, ids0, keys]
  intro C hC hC0 hY
  have hr := fun ρ => Blk.fx_rn h.fx ρ
  obtain ⟨m, hm⟩ : ∃ m, (if st < Int.bmod (-st) 18446744073709551616 then Int.bmod (-st) 18446744073709551616 else st) = m := ⟨_, rfl⟩
  have key := stB_max st hs
  rw [hm] at key
  unfold rightB
  rw [key]
  by_cases c0 : m ≤ 1073741824
  · by_cases c1 : -1073741824 ≤ st
    · by_cases c2 : 0 < n
      · by_cases c3 : n ≤ 4
        · have c4 : (n : Int) ≤ 4 := by omega
          have e : decide (1 ≤ n ∧ n ≤ 4) = true := decide_eq_true (by omega)
          rw [decide_eq_true c0, decide_eq_true c1, e]
          repeat' (first | refine GW_seq ?_ | simp only [List.length_cons, List.length_nil, Nat.reduceAdd, Nat.reduceMul, wN] | ((first | refine GW_region' [77] (by kernel_rfl) ?_ | refine GW_draw' [77] follows (by kernel_rfl) (by kernel_rfl) ?_); intro Q hQ hP; simp [hC, hY, hm, c0, c1, c2, c3, c4]; (repeat ((first | (refine heapK_mv (swi_fun b off n cap f h st 1048576 65536 i64_box i64_top) G0F (B := 200) (oneL_ok h.fx) (fun k => k) (fun k hk => rfl) (by simp [ren, renA, renF, ren0]) (by simp) (by simp [hr]) (by simp [keys]) (by simp [keys]; rfl) ?_)); try simp [hC, hY, hm, c0, c1, c2, c3, c4])); (first | refine hQ _ _ _ _ ?_ | refine hQ _ _ _ _ (by kernel_rfl) ?_ | refine hP _ _ (fun _ => ?_) | refine hP _ _ (by kernel_rfl) (fun _ => ?_)); clear hQ hP Q) | refine GW_block ?_ | refine GW_ret ?_ | refine GW_skip ?_ | refine GW_exit ?_ | refine GW_goto ?_ | refine GW_label ?_ | simp only [blockG_exit] | (refine GW_cond (by simp; rfl) ?_ ?_ <;> (intro hb; first | (exfalso; exact absurd hb (by decide)) | skip)))
          refine ⟨.inr rfl, by simp [Tryd.results44], keep_of G0F (by simp) (by (intro k hk; first | rfl | (simp (disch := omega) only [addB, List.mem_cons, List.not_mem_nil, or_false, upd_other, hpL_cons, hpL_nil, if_neg, updL] <;> done)))⟩
        · have c4 : ¬ (n : Int) ≤ 4 := by omega
          have e : decide (1 ≤ n ∧ n ≤ 4) = false := decide_eq_false (by omega)
          rw [decide_eq_true c0, decide_eq_true c1, e]
          repeat' (first | refine GW_seq ?_ | simp only [List.length_cons, List.length_nil, Nat.reduceAdd, Nat.reduceMul, wN] | ((first | refine GW_region' [] (by kernel_rfl) ?_ | refine GW_draw' [] follows (by kernel_rfl) (by kernel_rfl) ?_); intro Q hQ hP; simp [hC, hY, hm, c0, c1, c2, c3, c4]; (first | refine hQ _ _ _ _ ?_ | refine hQ _ _ _ _ (by kernel_rfl) ?_ | refine hP _ _ (fun _ => ?_) | refine hP _ _ (by kernel_rfl) (fun _ => ?_)); clear hQ hP Q) | refine GW_block ?_ | refine GW_ret ?_ | refine GW_skip ?_ | refine GW_exit ?_ | refine GW_goto ?_ | refine GW_label ?_ | simp only [blockG_exit] | (refine GW_cond (by simp; rfl) ?_ ?_ <;> (intro hb; first | (exfalso; exact absurd hb (by decide)) | skip)))
          refine ⟨.inr rfl, by simp [Tryd.results44], keep_of G0F (by simp) (by (intro k hk; first | rfl | (simp (disch := omega) only [addB, List.mem_cons, List.not_mem_nil, or_false, upd_other, hpL_cons, hpL_nil, if_neg, updL] <;> done)))⟩
      · have e : decide (1 ≤ n ∧ n ≤ 4) = false := decide_eq_false (by omega)
        rw [decide_eq_true c0, decide_eq_true c1, e]
        repeat' (first | refine GW_seq ?_ | simp only [List.length_cons, List.length_nil, Nat.reduceAdd, Nat.reduceMul, wN] | ((first | refine GW_region' [] (by kernel_rfl) ?_ | refine GW_draw' [] follows (by kernel_rfl) (by kernel_rfl) ?_); intro Q hQ hP; simp [hC, hY, hm, c0, c1, c2]; (first | refine hQ _ _ _ _ ?_ | refine hQ _ _ _ _ (by kernel_rfl) ?_ | refine hP _ _ (fun _ => ?_) | refine hP _ _ (by kernel_rfl) (fun _ => ?_)); clear hQ hP Q) | refine GW_block ?_ | refine GW_ret ?_ | refine GW_skip ?_ | refine GW_exit ?_ | refine GW_goto ?_ | refine GW_label ?_ | simp only [blockG_exit] | (refine GW_cond (by simp; rfl) ?_ ?_ <;> (intro hb; first | (exfalso; exact absurd hb (by decide)) | skip)))
        refine ⟨.inr rfl, by simp [Tryd.results44], keep_of G0F (by simp) (by (intro k hk; first | rfl | (simp (disch := omega) only [addB, List.mem_cons, List.not_mem_nil, or_false, upd_other, hpL_cons, hpL_nil, if_neg, updL] <;> done)))⟩
    · rw [decide_eq_true c0, decide_eq_false c1]
      repeat' (first | refine GW_seq ?_ | simp only [List.length_cons, List.length_nil, Nat.reduceAdd, Nat.reduceMul, wN] | ((first | refine GW_region' [] (by kernel_rfl) ?_ | refine GW_draw' [] follows (by kernel_rfl) (by kernel_rfl) ?_); intro Q hQ hP; simp [hC, hY, hm, c0, c1]; (first | refine hQ _ _ _ _ ?_ | refine hQ _ _ _ _ (by kernel_rfl) ?_ | refine hP _ _ (fun _ => ?_) | refine hP _ _ (by kernel_rfl) (fun _ => ?_)); clear hQ hP Q) | refine GW_block ?_ | refine GW_ret ?_ | refine GW_skip ?_ | refine GW_exit ?_ | refine GW_goto ?_ | refine GW_label ?_ | simp only [blockG_exit] | (refine GW_cond (by simp; rfl) ?_ ?_ <;> (intro hb; first | (exfalso; exact absurd hb (by decide)) | skip)))
      refine ⟨.inr rfl, by simp [Tryd.results44], keep_of G0F (by simp) (by (intro k hk; first | rfl | (simp (disch := omega) only [addB, List.mem_cons, List.not_mem_nil, or_false, upd_other, hpL_cons, hpL_nil, if_neg, updL] <;> done)))⟩
  · rw [decide_eq_false c0]
    repeat' (first | refine GW_seq ?_ | simp only [List.length_cons, List.length_nil, Nat.reduceAdd, Nat.reduceMul, wN] | ((first | refine GW_region' [] (by kernel_rfl) ?_ | refine GW_draw' [] follows (by kernel_rfl) (by kernel_rfl) ?_); intro Q hQ hP; simp [hC, hY, hm, c0]; (first | refine hQ _ _ _ _ ?_ | refine hQ _ _ _ _ (by kernel_rfl) ?_ | refine hP _ _ (fun _ => ?_) | refine hP _ _ (by kernel_rfl) (fun _ => ?_)); clear hQ hP Q) | refine GW_block ?_ | refine GW_ret ?_ | refine GW_skip ?_ | refine GW_exit ?_ | refine GW_goto ?_ | refine GW_label ?_ | simp only [blockG_exit] | (refine GW_cond (by simp; rfl) ?_ ?_ <;> (intro hb; first | (exfalso; exact absurd hb (by decide)) | skip)))
    refine ⟨.inr rfl, by simp [Tryd.results44], keep_of G0F (by simp) (by (intro k hk; first | rfl | (simp (disch := omega) only [addB, List.mem_cons, List.not_mem_nil, or_false, upd_other, hpL_cons, hpL_nil, if_neg, updL] <;> done)))⟩
/-- Of no bodies. -/
theorem rig_nil (st : Int) (hs : i64 st) : Ret Tryd.prog G0 44 #[.agg #[.int .i64 st, .slice none 0 0]] (.bool false) := by
  refine ret_of G0F Tryd.func44 rfl Tryd.call44 rfl (by simp) (by simp [Tryd.ntmps44]) ?_
  intro C hC hC0 hY
  obtain ⟨m, hm⟩ : ∃ m, (if st < Int.bmod (-st) 18446744073709551616 then Int.bmod (-st) 18446744073709551616 else st) = m := ⟨_, rfl⟩
  by_cases c0 : m ≤ 1073741824
  · by_cases c1 : -1073741824 ≤ st
    · (repeat' (first | refine GW_seq ?_ | simp only [List.length_cons, List.length_nil, Nat.reduceAdd, Nat.reduceMul, wN] | ((first | refine GW_region' [] (by kernel_rfl) ?_ | refine GW_draw' [] follows (by kernel_rfl) (by kernel_rfl) ?_); intro Q hQ hP; simp [hC, hY, hm, c0, c1]; (first | refine hQ _ _ _ _ ?_ | refine hQ _ _ _ _ (by kernel_rfl) ?_ | refine hP _ _ (fun _ => ?_) | refine hP _ _ (by kernel_rfl) (fun _ => ?_)); clear hQ hP Q) | refine GW_block ?_ | refine GW_ret ?_ | refine GW_skip ?_ | refine GW_exit ?_ | refine GW_goto ?_ | refine GW_label ?_ | simp only [blockG_exit] | (refine GW_cond (by simp; rfl) ?_ ?_ <;> (intro hb; first | (exfalso; exact absurd hb (by decide)) | skip))))
      refine ⟨.inr trivial, ?_⟩
      simp [Tryd.results44]
    · (repeat' (first | refine GW_seq ?_ | simp only [List.length_cons, List.length_nil, Nat.reduceAdd, Nat.reduceMul, wN] | ((first | refine GW_region' [] (by kernel_rfl) ?_ | refine GW_draw' [] follows (by kernel_rfl) (by kernel_rfl) ?_); intro Q hQ hP; simp [hC, hY, hm, c0, c1]; (first | refine hQ _ _ _ _ ?_ | refine hQ _ _ _ _ (by kernel_rfl) ?_ | refine hP _ _ (fun _ => ?_) | refine hP _ _ (by kernel_rfl) (fun _ => ?_)); clear hQ hP Q) | refine GW_block ?_ | refine GW_ret ?_ | refine GW_skip ?_ | refine GW_exit ?_ | refine GW_goto ?_ | refine GW_label ?_ | simp only [blockG_exit] | (refine GW_cond (by simp; rfl) ?_ ?_ <;> (intro hb; first | (exfalso; exact absurd hb (by decide)) | skip))))
      refine ⟨.inr trivial, ?_⟩
      simp [Tryd.results44]
  · (repeat' (first | refine GW_seq ?_ | simp only [List.length_cons, List.length_nil, Nat.reduceAdd, Nat.reduceMul, wN] | ((first | refine GW_region' [] (by kernel_rfl) ?_ | refine GW_draw' [] follows (by kernel_rfl) (by kernel_rfl) ?_); intro Q hQ hP; simp [hC, hY, hm, c0]; (first | refine hQ _ _ _ _ ?_ | refine hQ _ _ _ _ (by kernel_rfl) ?_ | refine hP _ _ (fun _ => ?_) | refine hP _ _ (by kernel_rfl) (fun _ => ?_)); clear hQ hP Q) | refine GW_block ?_ | refine GW_ret ?_ | refine GW_skip ?_ | refine GW_exit ?_ | refine GW_goto ?_ | refine GW_label ?_ | simp only [blockG_exit] | (refine GW_cond (by simp; rfl) ?_ ?_ <;> (intro hb; first | (exfalso; exact absurd hb (by decide)) | skip))))
    refine ⟨.inr trivial, ?_⟩
    simp [Tryd.results44]
@[simp] theorem rigN (st : Int) (hs : i64 st) (K : Value → Prop) : callK Tryd.prog G0 44 #[.agg #[.int .i64 st, .slice none 0 0]] K ↔ K (.bool false) := callK_iff G0W (by kernel_rfl) (rig_nil st hs)
end Go.Gy
namespace Go.Gy
set_option linter.unusedSimpArgs false
set_option linter.unusedVariables false
open Go Go.RowKit Go.Proofs
theorem SB.int {b : Blk} {off n : Nat} {f : Nat → Int} (h : SB b off n f) {i : Nat} (hi : i < n) {q : Nat} (hq : q < 6) : loadK Tryd.prog 3 b (off + i * 6 + q) = some (.int .i64 (f (6 * i + q))) := by
  have := loadK_rd1 (P := Tryd.prog) (T := 3) (j := 6 * i + q) (tyAgg_of Tryd.isAgg3) h.rd (by omega)
  rw [show off + i * 6 + q = off + (6 * i + q) by omega, this]
def w10St (b : Blk) (off n cap : Nat) (st : Int) (i : Nat) : GS :=
  ⟨tsL [(1, .int .i64 1048576), (2, .int .i64 65536), (3, .pointer (some ⟨200, 0, none⟩)), (7, .int .i64 i)],
   hpL G0 [(200, ⟨#[.int .i64 st, .slice (some ⟨100, off, none⟩) n cap], .ty 24⟩), (100, b)], 400, 0⟩
theorem inB_cases {f : Nat → Int} {i : Nat} : inB 1048576 65536 f i = true ↔ ((-1048576 ≤ f (6 * i) ∧ f (6 * i) ≤ 1048576) ∧ (-1048576 ≤ f (6 * i + 1) ∧ f (6 * i + 1) ≤ 1048576) ∧ (-1048576 ≤ f (6 * i + 2) ∧ f (6 * i + 2) ≤ 1048576)) ∧ (-65536 ≤ f (6 * i + 3) ∧ f (6 * i + 3) ≤ 65536) ∧ (-65536 ≤ f (6 * i + 4) ∧ f (6 * i + 4) ≤ 65536) ∧ (-65536 ≤ f (6 * i + 5) ∧ f (6 * i + 5) ≤ 65536) := by
  unfold inB inV inW
  simp only [Bool.and_eq_true, decide_eq_true_eq]
  omega
set_option maxHeartbeats 4000000 in
set_option maxRecDepth 20000 in
theorem w10_fun (b : Blk) (off n cap : Nat) (f : Nat → Int) (h : SB b off n f) (st : Int) :
    Fun Tryd.prog G0 51 #[.agg #[.int .i64 st, .slice (some ⟨100, off, none⟩) n cap], .int .i64 1048576, .int .i64 65536] (hpL G0 [(100, b)]) (keys [(100, b)]) (.ret (.bool (allB 1048576 65536 f n)) []) := by
  refine fun_ofL (B := 200) G0F Tryd.func51 rfl Tryd.call51 (oneL_ok h.fx) ?_ (by simp) (by simp) (by simp) (by simp [Tryd.ntmps51]) (by omega) ?_
  · simp [idsV, idsA, idsF, ids0, keys]
  intro C hC hC0 hY
  obtain ⟨N, hN, hlt, hend⟩ := leadB (inB 1048576 65536 f) n
  have hnn := h.nn
  rw [allB_lead hN hlt hend]
  repeat' (first | refine GW_seq ?_ | simp only [List.length_cons, List.length_nil, Nat.reduceAdd, Nat.reduceMul, wN] | ((first | refine GW_region' [] (by kernel_rfl) ?_ | refine GW_draw' [] follows (by kernel_rfl) (by kernel_rfl) ?_); intro Q hQ hP; simp [hC, hY]; (first | refine hQ _ _ _ _ ?_ | refine hQ _ _ _ _ (by kernel_rfl) ?_ | refine hP _ _ (fun _ => ?_) | refine hP _ _ (by kernel_rfl) (fun _ => ?_)); clear hQ hP Q) | refine GW_block ?_ | refine GW_ret ?_ | refine GW_skip ?_ | refine GW_exit ?_ | refine GW_goto ?_ | refine GW_label ?_ | simp only [blockG_exit] | (refine GW_cond (by simp; rfl) ?_ ?_ <;> (intro hb; first | (exfalso; exact absurd hb (by decide)) | skip)))
  refine GW_for N (w10St b off n cap st) ?_ ?_ ?_
  · refine weakL _ 400 hC G0F (m0 := [(100, b)]) hC0 (by omega) ?_ ?_ ?_
    · simp [idsV, idsA, idsF, ids0, dom]
    · have hi := fun D => Blk.fx_ids h.fx D
      simp [ids_lit, idsF, ids0, hi, dom]
    · simp
  · intro i hi
    have hin : i < n := by omega
    have hi' : (i : Int) < n := by omega
    have hz : (0 : Int) ≤ i := by omega
    have hs : Int.bmod ((i : Int) + 1) 18446744073709551616 = ((i + 1 : Nat) : Int) := by rw [bm (by omega) (by omega)]; rfl
    have l0 := h.int hin (q := 0) (by omega)
    have l1 := h.int hin (q := 1) (by omega)
    have l2 := h.int hin (q := 2) (by omega)
    have l3 := h.int hin (q := 3) (by omega)
    have l4 := h.int hin (q := 4) (by omega)
    have l5 := h.int hin (q := 5) (by omega)
    simp only [Nat.add_zero] at l0
    obtain ⟨⟨⟨a0, b0⟩, ⟨a1, b1⟩, ⟨a2, b2⟩⟩, ⟨a3, b3⟩, ⟨a4, b4⟩, ⟨a5, b5⟩⟩ := inB_cases.1 (hlt i hi)
    replace a0 := Int.not_lt.2 a0
    replace a1 := Int.not_lt.2 a1
    replace a2 := Int.not_lt.2 a2
    replace a3 := Int.not_lt.2 a3
    replace a4 := Int.not_lt.2 a4
    replace a5 := Int.not_lt.2 a5
    replace b0 := Int.not_lt.2 b0
    replace b1 := Int.not_lt.2 b1
    replace b2 := Int.not_lt.2 b2
    replace b3 := Int.not_lt.2 b3
    replace b4 := Int.not_lt.2 b4
    replace b5 := Int.not_lt.2 b5
    unfold w10St
    repeat' (first | refine GW_seq ?_ | refine GWL_start ?_ | refine GWL_step ?_ | simp only [List.length_cons, List.length_nil, Nat.reduceAdd, Nat.reduceMul, wN] | ((first | refine GW_region' [] (by kernel_rfl) ?_ | refine GW_draw' [] follows (by kernel_rfl) (by kernel_rfl) ?_); intro Q hQ hP; simp [hC, hY, hi, hin, hi', hz, hs, l0, l1, l2, l3, l4, l5, a0, a1, a2, a3, a4, a5, b0, b1, b2, b3, b4, b5]; (first | refine hQ _ _ _ _ ?_ | refine hQ _ _ _ _ (by kernel_rfl) ?_ | refine hP _ _ (fun _ => ?_) | refine hP _ _ (by kernel_rfl) (fun _ => ?_)); clear hQ hP Q) | refine GW_block ?_ | refine GW_ret ?_ | refine GW_skip ?_ | refine GW_exit ?_ | refine GW_goto ?_ | refine GW_label ?_ | simp only [blockG_exit] | (refine GW_cond (by simp; rfl) ?_ ?_ <;> (intro hb; first | (exfalso; exact absurd hb (by decide)) | skip)))
    refine weakL _ 400 hC G0F (m0 := [(100, b)]) hC0 (by omega) ?_ ?_ ?_
    · simp [idsV, idsA, idsF, ids0, dom, hs]
    · have hi := fun D => Blk.fx_ids h.fx D
      simp [ids_lit, idsF, ids0, hi, dom]
    · simp
  · by_cases hNn : N = n
    · rw [decide_eq_true hNn]
      subst hNn
      unfold w10St
      repeat' (first | refine GW_seq ?_ | simp only [List.length_cons, List.length_nil, Nat.reduceAdd, Nat.reduceMul, wN] | ((first | refine GW_region' [] (by kernel_rfl) ?_ | refine GW_draw' [] follows (by kernel_rfl) (by kernel_rfl) ?_); intro Q hQ hP; simp [hC, hY]; (first | refine hQ _ _ _ _ ?_ | refine hQ _ _ _ _ (by kernel_rfl) ?_ | refine hP _ _ (fun _ => ?_) | refine hP _ _ (by kernel_rfl) (fun _ => ?_)); clear hQ hP Q) | refine GW_block ?_ | refine GW_ret ?_ | refine GW_skip ?_ | refine GW_exit ?_ | refine GW_goto ?_ | refine GW_label ?_ | simp only [blockG_exit] | (refine GW_cond (by simp; rfl) ?_ ?_ <;> (intro hb; first | (exfalso; exact absurd hb (by decide)) | skip)))
      refine ⟨.inr rfl, by simp [Tryd.results51], keep_of G0F (by simp) (by (intro k hk; first | rfl | (simp (disch := omega) only [addB, List.mem_cons, List.not_mem_nil, or_false, upd_other, hpL_cons, hpL_nil, if_neg, updL] <;> done)))⟩
    · rw [decide_eq_false hNn]
      have hin : N < n := by omega
      have hi' : (N : Int) < n := by omega
      have hz : (0 : Int) ≤ N := by omega
      have l0 := h.int hin (q := 0) (by omega)
      have l1 := h.int hin (q := 1) (by omega)
      have l2 := h.int hin (q := 2) (by omega)
      have l3 := h.int hin (q := 3) (by omega)
      have l4 := h.int hin (q := 4) (by omega)
      have l5 := h.int hin (q := 5) (by omega)
      simp only [Nat.add_zero] at l0
      have hbad : ¬ inB 1048576 65536 f N = true := by rw [hend.resolve_left hNn]; simp
      rw [inB_cases] at hbad
      unfold w10St
      by_cases a0 : f (6 * N) < -1048576
      ·
        repeat' (first | refine GW_seq ?_ | refine GWL_start ?_ | refine GWL_step ?_ | simp only [List.length_cons, List.length_nil, Nat.reduceAdd, Nat.reduceMul, wN] | ((first | refine GW_region' [] (by kernel_rfl) ?_ | refine GW_draw' [] follows (by kernel_rfl) (by kernel_rfl) ?_); intro Q hQ hP; simp [hC, hY, hin, hi', hz, l0, l1, l2, l3, l4, l5, a0]; (first | refine hQ _ _ _ _ ?_ | refine hQ _ _ _ _ (by kernel_rfl) ?_ | refine hP _ _ (fun _ => ?_) | refine hP _ _ (by kernel_rfl) (fun _ => ?_)); clear hQ hP Q) | refine GW_block ?_ | refine GW_ret ?_ | refine GW_skip ?_ | refine GW_exit ?_ | refine GW_goto ?_ | refine GW_label ?_ | simp only [blockG_exit] | (refine GW_cond (by simp; rfl) ?_ ?_ <;> (intro hb; first | (exfalso; exact absurd hb (by decide)) | skip)))
        refine ⟨.inr rfl, by simp [Tryd.results51], keep_of G0F (by simp) (by (intro k hk; first | rfl | (simp (disch := omega) only [addB, List.mem_cons, List.not_mem_nil, or_false, upd_other, hpL_cons, hpL_nil, if_neg, updL] <;> done)))⟩
      by_cases b0 : 1048576 < f (6 * N)
      ·
        repeat' (first | refine GW_seq ?_ | refine GWL_start ?_ | refine GWL_step ?_ | simp only [List.length_cons, List.length_nil, Nat.reduceAdd, Nat.reduceMul, wN] | ((first | refine GW_region' [] (by kernel_rfl) ?_ | refine GW_draw' [] follows (by kernel_rfl) (by kernel_rfl) ?_); intro Q hQ hP; simp [hC, hY, hin, hi', hz, l0, l1, l2, l3, l4, l5, a0, b0]; (first | refine hQ _ _ _ _ ?_ | refine hQ _ _ _ _ (by kernel_rfl) ?_ | refine hP _ _ (fun _ => ?_) | refine hP _ _ (by kernel_rfl) (fun _ => ?_)); clear hQ hP Q) | refine GW_block ?_ | refine GW_ret ?_ | refine GW_skip ?_ | refine GW_exit ?_ | refine GW_goto ?_ | refine GW_label ?_ | simp only [blockG_exit] | (refine GW_cond (by simp; rfl) ?_ ?_ <;> (intro hb; first | (exfalso; exact absurd hb (by decide)) | skip)))
        refine ⟨.inr rfl, by simp [Tryd.results51], keep_of G0F (by simp) (by (intro k hk; first | rfl | (simp (disch := omega) only [addB, List.mem_cons, List.not_mem_nil, or_false, upd_other, hpL_cons, hpL_nil, if_neg, updL] <;> done)))⟩
      by_cases a3 : f (6 * N + 3) < -65536
      ·
        repeat' (first | refine GW_seq ?_ | refine GWL_start ?_ | refine GWL_step ?_ | simp only [List.length_cons, List.length_nil, Nat.reduceAdd, Nat.reduceMul, wN] | ((first | refine GW_region' [] (by kernel_rfl) ?_ | refine GW_draw' [] follows (by kernel_rfl) (by kernel_rfl) ?_); intro Q hQ hP; simp [hC, hY, hin, hi', hz, l0, l1, l2, l3, l4, l5, a0, b0, a3]; (first | refine hQ _ _ _ _ ?_ | refine hQ _ _ _ _ (by kernel_rfl) ?_ | refine hP _ _ (fun _ => ?_) | refine hP _ _ (by kernel_rfl) (fun _ => ?_)); clear hQ hP Q) | refine GW_block ?_ | refine GW_ret ?_ | refine GW_skip ?_ | refine GW_exit ?_ | refine GW_goto ?_ | refine GW_label ?_ | simp only [blockG_exit] | (refine GW_cond (by simp; rfl) ?_ ?_ <;> (intro hb; first | (exfalso; exact absurd hb (by decide)) | skip)))
        refine ⟨.inr rfl, by simp [Tryd.results51], keep_of G0F (by simp) (by (intro k hk; first | rfl | (simp (disch := omega) only [addB, List.mem_cons, List.not_mem_nil, or_false, upd_other, hpL_cons, hpL_nil, if_neg, updL] <;> done)))⟩
      by_cases b3 : 65536 < f (6 * N + 3)
      ·
        repeat' (first | refine GW_seq ?_ | refine GWL_start ?_ | refine GWL_step ?_ | simp only [List.length_cons, List.length_nil, Nat.reduceAdd, Nat.reduceMul, wN] | ((first | refine GW_region' [] (by kernel_rfl) ?_ | refine GW_draw' [] follows (by kernel_rfl) (by kernel_rfl) ?_); intro Q hQ hP; simp [hC, hY, hin, hi', hz, l0, l1, l2, l3, l4, l5, a0, b0, a3, b3]; (first | refine hQ _ _ _ _ ?_ | refine hQ _ _ _ _ (by kernel_rfl) ?_ | refine hP _ _ (fun _ => ?_) | refine hP _ _ (by kernel_rfl) (fun _ => ?_)); clear hQ hP Q) | refine GW_block ?_ | refine GW_ret ?_ | refine GW_skip ?_ | refine GW_exit ?_ | refine GW_goto ?_ | refine GW_label ?_ | simp only [blockG_exit] | (refine GW_cond (by simp; rfl) ?_ ?_ <;> (intro hb; first | (exfalso; exact absurd hb (by decide)) | skip)))
        refine ⟨.inr rfl, by simp [Tryd.results51], keep_of G0F (by simp) (by (intro k hk; first | rfl | (simp (disch := omega) only [addB, List.mem_cons, List.not_mem_nil, or_false, upd_other, hpL_cons, hpL_nil, if_neg, updL] <;> done)))⟩
      by_cases a1 : f (6 * N + 1) < -1048576
      ·
        repeat' (first | refine GW_seq ?_ | refine GWL_start ?_ | refine GWL_step ?_ | simp only [List.length_cons, List.length_nil, Nat.reduceAdd, Nat.reduceMul, wN] | ((first | refine GW_region' [] (by kernel_rfl) ?_ | refine GW_draw' [] follows (by kernel_rfl) (by kernel_rfl) ?_); intro Q hQ hP; simp [hC, hY, hin, hi', hz, l0, l1, l2, l3, l4, l5, a0, b0, a3, b3, a1]; (first | refine hQ _ _ _ _ ?_ | refine hQ _ _ _ _ (by kernel_rfl) ?_ | refine hP _ _ (fun _ => ?_) | refine hP _ _ (by kernel_rfl) (fun _ => ?_)); clear hQ hP Q) | refine GW_block ?_ | refine GW_ret ?_ | refine GW_skip ?_ | refine GW_exit ?_ | refine GW_goto ?_ | refine GW_label ?_ | simp only [blockG_exit] | (refine GW_cond (by simp; rfl) ?_ ?_ <;> (intro hb; first | (exfalso; exact absurd hb (by decide)) | skip)))
        refine ⟨.inr rfl, by simp [Tryd.results51], keep_of G0F (by simp) (by (intro k hk; first | rfl | (simp (disch := omega) only [addB, List.mem_cons, List.not_mem_nil, or_false, upd_other, hpL_cons, hpL_nil, if_neg, updL] <;> done)))⟩
      by_cases b1 : 1048576 < f (6 * N + 1)
      ·
        repeat' (first | refine GW_seq ?_ | refine GWL_start ?_ | refine GWL_step ?_ | simp only [List.length_cons, List.length_nil, Nat.reduceAdd, Nat.reduceMul, wN] | ((first | refine GW_region' [] (by kernel_rfl) ?_ | refine GW_draw' [] follows (by kernel_rfl) (by kernel_rfl) ?_); intro Q hQ hP; simp [hC, hY, hin, hi', hz, l0, l1, l2, l3, l4, l5, a0, b0, a3, b3, a1, b1]; (first | refine hQ _ _ _ _ ?_ | refine hQ _ _ _ _ (by kernel_rfl) ?_ | refine hP _ _ (fun _ => ?_) | refine hP _ _ (by kernel_rfl) (fun _ => ?_)); clear hQ hP Q) | refine GW_block ?_ | refine GW_ret ?_ | refine GW_skip ?_ | refine GW_exit ?_ | refine GW_goto ?_ | refine GW_label ?_ | simp only [blockG_exit] | (refine GW_cond (by simp; rfl) ?_ ?_ <;> (intro hb; first | (exfalso; exact absurd hb (by decide)) | skip)))
        refine ⟨.inr rfl, by simp [Tryd.results51], keep_of G0F (by simp) (by (intro k hk; first | rfl | (simp (disch := omega) only [addB, List.mem_cons, List.not_mem_nil, or_false, upd_other, hpL_cons, hpL_nil, if_neg, updL] <;> done)))⟩
      by_cases a4 : f (6 * N + 4) < -65536
      ·
        repeat' (first | refine GW_seq ?_ | refine GWL_start ?_ | refine GWL_step ?_ | simp only [List.length_cons, List.length_nil, Nat.reduceAdd, Nat.reduceMul, wN] | ((first | refine GW_region' [] (by kernel_rfl) ?_ | refine GW_draw' [] follows (by kernel_rfl) (by kernel_rfl) ?_); intro Q hQ hP; simp [hC, hY, hin, hi', hz, l0, l1, l2, l3, l4, l5, a0, b0, a3, b3, a1, b1, a4]; (first | refine hQ _ _ _ _ ?_ | refine hQ _ _ _ _ (by kernel_rfl) ?_ | refine hP _ _ (fun _ => ?_) | refine hP _ _ (by kernel_rfl) (fun _ => ?_)); clear hQ hP Q) | refine GW_block ?_ | refine GW_ret ?_ | refine GW_skip ?_ | refine GW_exit ?_ | refine GW_goto ?_ | refine GW_label ?_ | simp only [blockG_exit] | (refine GW_cond (by simp; rfl) ?_ ?_ <;> (intro hb; first | (exfalso; exact absurd hb (by decide)) | skip)))
        refine ⟨.inr rfl, by simp [Tryd.results51], keep_of G0F (by simp) (by (intro k hk; first | rfl | (simp (disch := omega) only [addB, List.mem_cons, List.not_mem_nil, or_false, upd_other, hpL_cons, hpL_nil, if_neg, updL] <;> done)))⟩
      by_cases b4 : 65536 < f (6 * N + 4)
      ·
        repeat' (first | refine GW_seq ?_ | refine GWL_start ?_ | refine GWL_step ?_ | simp only [List.length_cons, List.length_nil, Nat.reduceAdd, Nat.reduceMul, wN] | ((first | refine GW_region' [] (by kernel_rfl) ?_ | refine GW_draw' [] follows (by kernel_rfl) (by kernel_rfl) ?_); intro Q hQ hP; simp [hC, hY, hin, hi', hz, l0, l1, l2, l3, l4, l5, a0, b0, a3, b3, a1, b1, a4, b4]; (first | refine hQ _ _ _ _ ?_ | refine hQ _ _ _ _ (by kernel_rfl) ?_ | refine hP _ _ (fun _ => ?_) | refine hP _ _ (by kernel_rfl) (fun _ => ?_)); clear hQ hP Q) | refine GW_block ?_ | refine GW_ret ?_ | refine GW_skip ?_ | refine GW_exit ?_ | refine GW_goto ?_ | refine GW_label ?_ | simp only [blockG_exit] | (refine GW_cond (by simp; rfl) ?_ ?_ <;> (intro hb; first | (exfalso; exact absurd hb (by decide)) | skip)))
        refine ⟨.inr rfl, by simp [Tryd.results51], keep_of G0F (by simp) (by (intro k hk; first | rfl | (simp (disch := omega) only [addB, List.mem_cons, List.not_mem_nil, or_false, upd_other, hpL_cons, hpL_nil, if_neg, updL] <;> done)))⟩
      by_cases a2 : f (6 * N + 2) < -1048576
      ·
        repeat' (first | refine GW_seq ?_ | refine GWL_start ?_ | refine GWL_step ?_ | simp only [List.length_cons, List.length_nil, Nat.reduceAdd, Nat.reduceMul, wN] | ((first | refine GW_region' [] (by kernel_rfl) ?_ | refine GW_draw' [] follows (by kernel_rfl) (by kernel_rfl) ?_); intro Q hQ hP; simp [hC, hY, hin, hi', hz, l0, l1, l2, l3, l4, l5, a0, b0, a3, b3, a1, b1, a4, b4, a2]; (first | refine hQ _ _ _ _ ?_ | refine hQ _ _ _ _ (by kernel_rfl) ?_ | refine hP _ _ (fun _ => ?_) | refine hP _ _ (by kernel_rfl) (fun _ => ?_)); clear hQ hP Q) | refine GW_block ?_ | refine GW_ret ?_ | refine GW_skip ?_ | refine GW_exit ?_ | refine GW_goto ?_ | refine GW_label ?_ | simp only [blockG_exit] | (refine GW_cond (by simp; rfl) ?_ ?_ <;> (intro hb; first | (exfalso; exact absurd hb (by decide)) | skip)))
        refine ⟨.inr rfl, by simp [Tryd.results51], keep_of G0F (by simp) (by (intro k hk; first | rfl | (simp (disch := omega) only [addB, List.mem_cons, List.not_mem_nil, or_false, upd_other, hpL_cons, hpL_nil, if_neg, updL] <;> done)))⟩
      by_cases b2 : 1048576 < f (6 * N + 2)
      ·
        repeat' (first | refine GW_seq ?_ | refine GWL_start ?_ | refine GWL_step ?_ | simp only [List.length_cons, List.length_nil, Nat.reduceAdd, Nat.reduceMul, wN] | ((first | refine GW_region' [] (by kernel_rfl) ?_ | refine GW_draw' [] follows (by kernel_rfl) (by kernel_rfl) ?_); intro Q hQ hP; simp [hC, hY, hin, hi', hz, l0, l1, l2, l3, l4, l5, a0, b0, a3, b3, a1, b1, a4, b4, a2, b2]; (first | refine hQ _ _ _ _ ?_ | refine hQ _ _ _ _ (by kernel_rfl) ?_ | refine hP _ _ (fun _ => ?_) | refine hP _ _ (by kernel_rfl) (fun _ => ?_)); clear hQ hP Q) | refine GW_block ?_ | refine GW_ret ?_ | refine GW_skip ?_ | refine GW_exit ?_ | refine GW_goto ?_ | refine GW_label ?_ | simp only [blockG_exit] | (refine GW_cond (by simp; rfl) ?_ ?_ <;> (intro hb; first | (exfalso; exact absurd hb (by decide)) | skip)))
        refine ⟨.inr rfl, by simp [Tryd.results51], keep_of G0F (by simp) (by (intro k hk; first | rfl | (simp (disch := omega) only [addB, List.mem_cons, List.not_mem_nil, or_false, upd_other, hpL_cons, hpL_nil, if_neg, updL] <;> done)))⟩
      by_cases a5 : f (6 * N + 5) < -65536
      ·
        repeat' (first | refine GW_seq ?_ | refine GWL_start ?_ | refine GWL_step ?_ | simp only [List.length_cons, List.length_nil, Nat.reduceAdd, Nat.reduceMul, wN] | ((first | refine GW_region' [] (by kernel_rfl) ?_ | refine GW_draw' [] follows (by kernel_rfl) (by kernel_rfl) ?_); intro Q hQ hP; simp [hC, hY, hin, hi', hz, l0, l1, l2, l3, l4, l5, a0, b0, a3, b3, a1, b1, a4, b4, a2, b2, a5]; (first | refine hQ _ _ _ _ ?_ | refine hQ _ _ _ _ (by kernel_rfl) ?_ | refine hP _ _ (fun _ => ?_) | refine hP _ _ (by kernel_rfl) (fun _ => ?_)); clear hQ hP Q) | refine GW_block ?_ | refine GW_ret ?_ | refine GW_skip ?_ | refine GW_exit ?_ | refine GW_goto ?_ | refine GW_label ?_ | simp only [blockG_exit] | (refine GW_cond (by simp; rfl) ?_ ?_ <;> (intro hb; first | (exfalso; exact absurd hb (by decide)) | skip)))
        refine ⟨.inr rfl, by simp [Tryd.results51], keep_of G0F (by simp) (by (intro k hk; first | rfl | (simp (disch := omega) only [addB, List.mem_cons, List.not_mem_nil, or_false, upd_other, hpL_cons, hpL_nil, if_neg, updL] <;> done)))⟩
      by_cases b5 : 65536 < f (6 * N + 5)
      ·
        repeat' (first | refine GW_seq ?_ | refine GWL_start ?_ | refine GWL_step ?_ | simp only [List.length_cons, List.length_nil, Nat.reduceAdd, Nat.reduceMul, wN] | ((first | refine GW_region' [] (by kernel_rfl) ?_ | refine GW_draw' [] follows (by kernel_rfl) (by kernel_rfl) ?_); intro Q hQ hP; simp [hC, hY, hin, hi', hz, l0, l1, l2, l3, l4, l5, a0, b0, a3, b3, a1, b1, a4, b4, a2, b2, a5, b5]; (first | refine hQ _ _ _ _ ?_ | refine hQ _ _ _ _ (by kernel_rfl) ?_ | refine hP _ _ (fun _ => ?_) | refine hP _ _ (by kernel_rfl) (fun _ => ?_)); clear hQ hP Q) | refine GW_block ?_ | refine GW_ret ?_ | refine GW_skip ?_ | refine GW_exit ?_ | refine GW_goto ?_ | refine GW_label ?_ | simp only [blockG_exit] | (refine GW_cond (by simp; rfl) ?_ ?_ <;> (intro hb; first | (exfalso; exact absurd hb (by decide)) | skip)))
        refine ⟨.inr rfl, by simp [Tryd.results51], keep_of G0F (by simp) (by (intro k hk; first | rfl | (simp (disch := omega) only [addB, List.mem_cons, List.not_mem_nil, or_false, upd_other, hpL_cons, hpL_nil, if_neg, updL] <;> done)))⟩
      exfalso
      omega
theorem rig10_fun (b : Blk) (off n cap : Nat) (f : Nat → Int) (h : SB b off n f) (st : Int) :
    Fun Tryd.prog G0 25 #[.agg #[.int .i64 st, .slice (some ⟨100, off, none⟩) n cap]] (hpL G0 [(100, b)]) (keys [(100, b)]) (.ret (.bool (rightB st f n)) []) := by
  refine fun_ofL (B := 200) G0F Tryd.func25 rfl Tryd.call25 (oneL_ok h.fx) ?_ (by simp) (by simp) (by simp) (by simp [Tryd.ntmps25]) (by omega) ?_
  · simp [idsV, idsA, idsF, ids0, keys]
  intro C hC hC0 hY
  have hr := fun ρ => Blk.fx_rn h.fx ρ
  unfold rightB
  by_cases c0 : -1073741824 ≤ st
  · by_cases c1 : st ≤ 1073741824
    · have es : stB st = true := decide_eq_true ⟨c0, c1⟩
      rw [es]
      by_cases c2 : 1 ≤ n
      · have c2' : (1 : Int) ≤ n := by omega
        have c2'' : 0 < n := by omega
        by_cases c3 : n ≤ 4
        · have c4 : (n : Int) ≤ 4 := by omega
          have e : decide (1 ≤ n ∧ n ≤ 4) = true := decide_eq_true (by omega)
          rw [e]
          repeat' (first | refine GW_seq ?_ | simp only [List.length_cons, List.length_nil, Nat.reduceAdd, Nat.reduceMul, wN] | ((first | refine GW_region' [51] (by kernel_rfl) ?_ | refine GW_draw' [51] follows (by kernel_rfl) (by kernel_rfl) ?_); intro Q hQ hP; simp [hC, hY, c0, c1, c2, c2', c2'', c3, c4]; (repeat ((first | (refine heapK_mv (w10_fun b off n cap f h st) G0F (B := 200) (oneL_ok h.fx) (fun k => k) (fun k hk => rfl) (by simp [ren, renA, renF, ren0]) (by simp) (by simp [hr]) (by simp [keys]) (by simp [keys]; rfl) ?_)); try simp [hC, hY, c0, c1, c2, c2', c2'', c3, c4])); (first | refine hQ _ _ _ _ ?_ | refine hQ _ _ _ _ (by kernel_rfl) ?_ | refine hP _ _ (fun _ => ?_) | refine hP _ _ (by kernel_rfl) (fun _ => ?_)); clear hQ hP Q) | refine GW_block ?_ | refine GW_ret ?_ | refine GW_skip ?_ | refine GW_exit ?_ | refine GW_goto ?_ | refine GW_label ?_ | simp only [blockG_exit] | (refine GW_cond (by simp; rfl) ?_ ?_ <;> (intro hb; first | (exfalso; exact absurd hb (by decide)) | skip)))
          refine ⟨.inr rfl, by simp [Tryd.results25], keep_of G0F (by simp) (by (intro k hk; first | rfl | (simp (disch := omega) only [addB, List.mem_cons, List.not_mem_nil, or_false, upd_other, hpL_cons, hpL_nil, if_neg, updL] <;> done)))⟩
        · have c4 : ¬ (n : Int) ≤ 4 := by omega
          have e : decide (1 ≤ n ∧ n ≤ 4) = false := decide_eq_false (by omega)
          rw [e]
          repeat' (first | refine GW_seq ?_ | simp only [List.length_cons, List.length_nil, Nat.reduceAdd, Nat.reduceMul, wN] | ((first | refine GW_region' [] (by kernel_rfl) ?_ | refine GW_draw' [] follows (by kernel_rfl) (by kernel_rfl) ?_); intro Q hQ hP; simp [hC, hY, c0, c1, c2, c2', c2'', c3, c4]; (first | refine hQ _ _ _ _ ?_ | refine hQ _ _ _ _ (by kernel_rfl) ?_ | refine hP _ _ (fun _ => ?_) | refine hP _ _ (by kernel_rfl) (fun _ => ?_)); clear hQ hP Q) | refine GW_block ?_ | refine GW_ret ?_ | refine GW_skip ?_ | refine GW_exit ?_ | refine GW_goto ?_ | refine GW_label ?_ | simp only [blockG_exit] | (refine GW_cond (by simp; rfl) ?_ ?_ <;> (intro hb; first | (exfalso; exact absurd hb (by decide)) | skip)))
          refine ⟨.inr rfl, by simp [Tryd.results25], keep_of G0F (by simp) (by (intro k hk; first | rfl | (simp (disch := omega) only [addB, List.mem_cons, List.not_mem_nil, or_false, upd_other, hpL_cons, hpL_nil, if_neg, updL] <;> done)))⟩
      · have c2' : ¬ (1 : Int) ≤ n := by omega
        have c2'' : ¬ 0 < n := by omega
        have c2''' : n = 0 := by omega
        have e : decide (1 ≤ n ∧ n ≤ 4) = false := decide_eq_false (by omega)
        rw [e]
        repeat' (first | refine GW_seq ?_ | simp only [List.length_cons, List.length_nil, Nat.reduceAdd, Nat.reduceMul, wN] | ((first | refine GW_region' [] (by kernel_rfl) ?_ | refine GW_draw' [] follows (by kernel_rfl) (by kernel_rfl) ?_); intro Q hQ hP; simp [hC, hY, c0, c1, c2, c2', c2'', c2''']; (first | refine hQ _ _ _ _ ?_ | refine hQ _ _ _ _ (by kernel_rfl) ?_ | refine hP _ _ (fun _ => ?_) | refine hP _ _ (by kernel_rfl) (fun _ => ?_)); clear hQ hP Q) | refine GW_block ?_ | refine GW_ret ?_ | refine GW_skip ?_ | refine GW_exit ?_ | refine GW_goto ?_ | refine GW_label ?_ | simp only [blockG_exit] | (refine GW_cond (by simp; rfl) ?_ ?_ <;> (intro hb; first | (exfalso; exact absurd hb (by decide)) | skip)))
        refine ⟨.inr rfl, by simp [Tryd.results25], keep_of G0F (by simp) (by (intro k hk; first | rfl | (simp (disch := omega) only [addB, List.mem_cons, List.not_mem_nil, or_false, upd_other, hpL_cons, hpL_nil, if_neg, updL] <;> done)))⟩
    · have es : stB st = false := decide_eq_false (by omega)
      rw [es]
      repeat' (first | refine GW_seq ?_ | simp only [List.length_cons, List.length_nil, Nat.reduceAdd, Nat.reduceMul, wN] | ((first | refine GW_region' [] (by kernel_rfl) ?_ | refine GW_draw' [] follows (by kernel_rfl) (by kernel_rfl) ?_); intro Q hQ hP; simp [hC, hY, c0, c1]; (first | refine hQ _ _ _ _ ?_ | refine hQ _ _ _ _ (by kernel_rfl) ?_ | refine hP _ _ (fun _ => ?_) | refine hP _ _ (by kernel_rfl) (fun _ => ?_)); clear hQ hP Q) | refine GW_block ?_ | refine GW_ret ?_ | refine GW_skip ?_ | refine GW_exit ?_ | refine GW_goto ?_ | refine GW_label ?_ | simp only [blockG_exit] | (refine GW_cond (by simp; rfl) ?_ ?_ <;> (intro hb; first | (exfalso; exact absurd hb (by decide)) | skip)))
      refine ⟨.inr rfl, by simp [Tryd.results25], keep_of G0F (by simp) (by (intro k hk; first | rfl | (simp (disch := omega) only [addB, List.mem_cons, List.not_mem_nil, or_false, upd_other, hpL_cons, hpL_nil, if_neg, updL] <;> done)))⟩
  · have es : stB st = false := decide_eq_false (by omega)
    rw [es]
    repeat' (first | refine GW_seq ?_ | simp only [List.length_cons, List.length_nil, Nat.reduceAdd, Nat.reduceMul, wN] | ((first | refine GW_region' [] (by kernel_rfl) ?_ | refine GW_draw' [] follows (by kernel_rfl) (by kernel_rfl) ?_); intro Q hQ hP; simp [hC, hY, c0]; (first | refine hQ _ _ _ _ ?_ | refine hQ _ _ _ _ (by kernel_rfl) ?_ | refine hP _ _ (fun _ => ?_) | refine hP _ _ (by kernel_rfl) (fun _ => ?_)); clear hQ hP Q) | refine GW_block ?_ | refine GW_ret ?_ | refine GW_skip ?_ | refine GW_exit ?_ | refine GW_goto ?_ | refine GW_label ?_ | simp only [blockG_exit] | (refine GW_cond (by simp; rfl) ?_ ?_ <;> (intro hb; first | (exfalso; exact absurd hb (by decide)) | skip)))
    refine ⟨.inr rfl, by simp [Tryd.results25], keep_of G0F (by simp) (by (intro k hk; first | rfl | (simp (disch := omega) only [addB, List.mem_cons, List.not_mem_nil, or_false, upd_other, hpL_cons, hpL_nil, if_neg, updL] <;> done)))⟩
theorem rig10_nil (st : Int) : Ret Tryd.prog G0 25 #[.agg #[.int .i64 st, .slice none 0 0]] (.bool false) := by
  refine ret_of G0F Tryd.func25 rfl Tryd.call25 rfl (by simp) (by simp [Tryd.ntmps25]) ?_
  intro C hC hC0 hY
  by_cases c0 : -1073741824 ≤ st
  · by_cases c1 : st ≤ 1073741824
    · (repeat' (first | refine GW_seq ?_ | simp only [List.length_cons, List.length_nil, Nat.reduceAdd, Nat.reduceMul, wN] | ((first | refine GW_region' [] (by kernel_rfl) ?_ | refine GW_draw' [] follows (by kernel_rfl) (by kernel_rfl) ?_); intro Q hQ hP; simp [hC, hY, c0, c1]; (first | refine hQ _ _ _ _ ?_ | refine hQ _ _ _ _ (by kernel_rfl) ?_ | refine hP _ _ (fun _ => ?_) | refine hP _ _ (by kernel_rfl) (fun _ => ?_)); clear hQ hP Q) | refine GW_block ?_ | refine GW_ret ?_ | refine GW_skip ?_ | refine GW_exit ?_ | refine GW_goto ?_ | refine GW_label ?_ | simp only [blockG_exit] | (refine GW_cond (by simp; rfl) ?_ ?_ <;> (intro hb; first | (exfalso; exact absurd hb (by decide)) | skip))))
      refine ⟨.inr trivial, ?_⟩
      simp [Tryd.results25]
    · (repeat' (first | refine GW_seq ?_ | simp only [List.length_cons, List.length_nil, Nat.reduceAdd, Nat.reduceMul, wN] | ((first | refine GW_region' [] (by kernel_rfl) ?_ | refine GW_draw' [] follows (by kernel_rfl) (by kernel_rfl) ?_); intro Q hQ hP; simp [hC, hY, c0, c1]; (first | refine hQ _ _ _ _ ?_ | refine hQ _ _ _ _ (by kernel_rfl) ?_ | refine hP _ _ (fun _ => ?_) | refine hP _ _ (by kernel_rfl) (fun _ => ?_)); clear hQ hP Q) | refine GW_block ?_ | refine GW_ret ?_ | refine GW_skip ?_ | refine GW_exit ?_ | refine GW_goto ?_ | refine GW_label ?_ | simp only [blockG_exit] | (refine GW_cond (by simp; rfl) ?_ ?_ <;> (intro hb; first | (exfalso; exact absurd hb (by decide)) | skip))))
      refine ⟨.inr trivial, ?_⟩
      simp [Tryd.results25]
  · (repeat' (first | refine GW_seq ?_ | simp only [List.length_cons, List.length_nil, Nat.reduceAdd, Nat.reduceMul, wN] | ((first | refine GW_region' [] (by kernel_rfl) ?_ | refine GW_draw' [] follows (by kernel_rfl) (by kernel_rfl) ?_); intro Q hQ hP; simp [hC, hY, c0]; (first | refine hQ _ _ _ _ ?_ | refine hQ _ _ _ _ (by kernel_rfl) ?_ | refine hP _ _ (fun _ => ?_) | refine hP _ _ (by kernel_rfl) (fun _ => ?_)); clear hQ hP Q) | refine GW_block ?_ | refine GW_ret ?_ | refine GW_skip ?_ | refine GW_exit ?_ | refine GW_goto ?_ | refine GW_label ?_ | simp only [blockG_exit] | (refine GW_cond (by simp; rfl) ?_ ?_ <;> (intro hb; first | (exfalso; exact absurd hb (by decide)) | skip))))
    refine ⟨.inr trivial, ?_⟩
    simp [Tryd.results25]
@[simp] theorem rig10N (st : Int) (K : Value → Prop) : callK Tryd.prog G0 25 #[.agg #[.int .i64 st, .slice none 0 0]] K ↔ K (.bool false) := callK_iff G0W (by kernel_rfl) (rig10_nil st)
end Go.Gy
namespace Go.Gy
set_option linter.unusedSimpArgs false
open Go Go.RowKit
section
variable {P : Program} {C : Ctx} {n : Nat} {d : List Deferred} {ro : Option Nat} {s : GS} {K : Exit → GS → Prop}
theorem GL_bs0 {ops : Array Oper} {o : Oper} {post : List Oper} {base k : Nat} {ts : Nat → Value} {hp : Hp} {yc : Nat} {T e : TypeId} {m : Nat} (hg : o.guard = none) (hd : ∀ dd, o.dst = some dd → dd < n)
    (ho : o.op = .buildSlice T 0 #[]) (hu : P.underlying T = some (.slice e)) (hm : tySize P e = some m)
    (h : GL P C n d ro ops base (k + 1) post (putT ts o.dst (.slice (some ⟨base + 8 * k, 0, none⟩) 0 0)) (upd hp (base + 8 * k) (some ⟨#[], .ty e⟩)) yc K) : GL P C n d ro ops base k (o :: post) ts hp yc K := by
  intro r a W hi hf hb hG hR
  refine wpListIn_plain hg fun K' hK' => ?_
  have hnk : hp (base + 8 * k) = none := hf _ (Nat.le_refl _)
  have hff : ∀ x ∈ (#[] : Array Value), flatF x = true := by simp
  have hnd : ¬ dom hp (base + 8 * k) := by unfold dom; simp [hnk]
  have hr' : ∀ q, dom hp q → upd r (base + 8 * k) W.heap.size q = r q := fun q hq => upd_other _ _ (fun e => hnd (e ▸ hq))
  refine wp_of_upon (by rw [ho]; intro c; simp) (R := fun u W' => u = .slice (some ⟨W.heap.size, 0, none⟩) 0 0 ∧ W' = W.alloc (.cells #[] e)) (Rp := fun _ _ => False) ?_ (fun u W' h' => ?_) (fun pv W' h => h.elim)
  · unfold Upon
    simp only [execOp, ho, Instr.buildSlice, Sem.run_bind, run_underlying hu, Result.andThen_ok, run_sizeOf hm, Nat.zero_mul]
    simp [Instr.fill, newRow, newObj, Sem.run]
    rw [show Array.range 0 = #[] from rfl, show ∀ f : Nat → Value, Array.map f #[] = #[] from fun f => by simp]
  · obtain ⟨rfl, rfl⟩ := h'
    have hv : (Value.slice (some ⟨W.heap.size, 0, none⟩) 0 0) = ren (upd r (base + 8 * k) W.heap.size) (.slice (some ⟨base + 8 * k, 0, none⟩) 0 0) := by simp [ren, renA, renF, ren0, upd]
    rw [hv]
    refine hK' _ _ (h (upd r (base + 8 * k) W.heap.size) _ _ (hi.after (e := ⟨.slice (some ⟨base + 8 * k, 0, none⟩) 0 0, [], [], [(base + 8 * k, ⟨#[], .ty e⟩)], none, false⟩) hd hr' (by simp [idsV, idsA, idsF, ids0, extD, keys]) ⟨rfl, rfl, rfl, (by show W.heap.size ≤ (W.heap.push _).size; simp), fun q hq _ => ?_, fun p hp1 => ?_, fun p hp1 => ?_, by simp⟩ (by simp [keys]) (by simp [keys, hnk]; omega)) (fun x hx' => ?_) hb hG hR)
    · exact Below.heap_alloc _ _ _ hq
    · simp only [List.nil_append, List.mem_singleton] at hp1
      subst hp1
      refine ⟨?_, Blk.flat_ids hff⟩
      rw [Blk.obj_flat hff]
      show (W.alloc _).heap[upd r (base + 8 * k) W.heap.size (base + 8 * k)]? = _
      rw [upd_same]
      exact heap_alloc_new W _
    · simp only [List.mem_singleton] at hp1
      subst hp1
      show W.heap.size ≤ upd r (base + 8 * k) W.heap.size (base + 8 * k)
      rw [upd_same]
      exact Nat.le_refl _
    · rw [upd_other _ _ (fun e => by omega)]
      exact hf x (by omega)
/-- A row, so far: i of m ints each, as G says; or nothing yet. -/
def RowAt (m i : Nat) (G : Nat → Int) (e : TypeId) (hp : Hp) (sl : Value) : Prop := (i = 0 ∧ sl = .slice none 0 0) ∨ ∃ (k c : Nat) (g : Nat → Int), 100 ≤ k ∧ sl = .slice (some ⟨k, 0, none⟩) i c ∧ hp k = some ⟨fa (m * c) .i64 g, .ty e⟩ ∧ i ≤ c ∧ ∀ j, j < m * i → g j = G j
/-- One more is laid behind a row. -/
theorem GL_push {ops : Array Oper} {o : Oper} {post : List Oper} {base k : Nat} {ts : Nat → Value} {hp : Hp} {yc : Nat} {tx ty : Tmp} {t e : TypeId} {m i j by' : Nat} {z : Value} {T2 : BTy} {G ev : Nat → Int} (hg : o.guard = none) (hd : ∀ dd, o.dst = some dd → dd < n)
    (ho : o.op = .call { callee := .builtin .append, args := #[.tmp tx, .tmp ty], argTypes := #[t, t] }) (ht : P.underlying t = some (.slice e)) (hs : tySize P e = some m) (hz : tyZero P e = some z) (hby : tyBytes P e = some by') (hb8 : by' ≤ 8 * m)
    (hzz : ∀ x ∈ z.cells, x = .int .i64 0) (hzs : z.cells.size = m) (hm0 : 0 < m) (hm1 : m ≤ 1024) (hx : RowAt m i G e hp (ts tx)) (hy : ts ty = .slice (some ⟨j, 0, none⟩) 1 1) (hb2 : hp j = some ⟨fa m .i64 ev, T2⟩) (hev : ∀ q, q < m → ev q = G (m * i + q)) (hi20 : (i + 1) * (8 * m) ≤ 140737488355328)
    (h : ∀ k' c' g', (k' = base + 8 * k ∨ ∃ c, ts tx = .slice (some ⟨k', 0, none⟩) i c) → 100 ≤ k' → i + 1 ≤ c' → (∀ q, q < m * (i + 1) → g' q = G q) →
      GL P C n d ro ops base (k + 1) post (putT ts o.dst (.slice (some ⟨k', 0, none⟩) (i + 1) c')) (upd hp k' (some ⟨fa (m * c') .i64 g', .ty e⟩)) yc K) : GL P C n d ro ops base k (o :: post) ts hp yc K := by
  have hzf : ∀ q, ∀ x ∈ Builtin.zeroCells z.cells q, flatF x = true := fun q x hx => by rw [hzz x (zc_mem hx)]; rfl
  by_cases hb100 : ¬ 100 ≤ base
  · intro r a W hi hf hb hG hR
    exact absurd hb hb100
  replace hb100 : 100 ≤ base := Classical.not_not.1 hb100
  have hle : m * (i + 1) = m * i + m := by rw [Nat.mul_add, Nat.mul_one]
  have hmi : m * i ≤ 140737488355328 := Nat.le_trans (by rw [Nat.mul_comm]; exact Nat.mul_le_mul (by omega) (by omega)) hi20
  have hi1 : i + 1 ≤ 140737488355328 := Nat.le_trans (Nat.le_mul_of_pos_right _ (by omega)) hi20
  have h8 : (i + 1) * by' ≤ 140737488355328 := Nat.le_trans (Nat.mul_le_mul (Nat.le_refl _) hb8) hi20
  rcases hx with ⟨rfl, hx⟩ | ⟨k0, c, g, hk0, hx, hb, hic, hgG⟩
  · refine GL_app0 (nw := (fa m .i64 ev).toList) hg hd ho ht hs hz hby hx hy hb2 (fun q u hq => by simpa using hq) fa_list_flat hzf (by omega) (by simp) (by unfold maxLen; omega) (by omega) (fun cap' hc' => ?_)
    rw [zeros_fa (k := .i64) hzz, app_new, hzs]
    have em : m + (cap' - 1) * m = m * cap' := by
      have : cap' = (cap' - 1) + 1 := by omega
      rw [this, Nat.mul_add, Nat.mul_comm m]; simp; omega
    rw [em]
    refine h _ cap' _ (.inl rfl) (by omega) (by omega) fun q hq => ?_
    unfold catN
    rw [if_pos (by omega)]
    have := hev q (by omega)
    simpa using this
  · refine GL_app hg hd (appX_mk (c := (fa (m * c) .i64 g).toList) (c2 := (fa m .i64 ev).toList) (k := k0) (j := j) (m := 1) (m' := 1) (sl := i) (cap := c) (e := e) (T2 := T2) (sz := m) (by' := by') (z := z) ho ht hs hz hby hx hk0 (by simpa using hb) fa_list_flat hy (by simpa using hb2) fa_list_flat fa_list_one hzf (by simp) (by rw [fa_toList_len, Nat.mul_comm]; exact Nat.le_refl _) hic (by unfold maxLen; omega) h8 (fun hr => ?_) (fun hr cap' hc' => ?_))
    · have hcm : m * (i + 1) ≤ m * c := Nat.mul_le_mul (Nat.le_refl _) hr
      rw [Nat.mul_comm i m, app_room (by omega)]
      refine h k0 c _ (.inr ⟨c, hx⟩) hk0 hr fun q hq => ?_
      unfold putN
      by_cases hq1 : q < m * i
      · rw [if_neg (by omega)]; exact hgG q hq1
      · rw [if_pos (by omega), hev _ (by omega)]; congr 1; omega
    · have hcm : m * i ≤ m * c := Nat.mul_le_mul (Nat.le_refl _) hic
      rw [Nat.mul_comm i m, zeros_fa (k := .i64) hzz, hzs, app_grow (by omega)]
      have em : m * i + m + (cap' - (i + 1)) * m = m * cap' := by
        obtain ⟨x, rfl⟩ : ∃ x, cap' = i + 1 + x := ⟨cap' - (i + 1), by omega⟩
        rw [show i + 1 + x - (i + 1) = x by omega, Nat.mul_add, Nat.mul_add, Nat.mul_one, Nat.mul_comm x m]
      rw [em]
      refine h _ cap' _ (.inl rfl) (by omega) hc' fun q hq => ?_
      unfold catN
      by_cases hq1 : q < m * i
      · rw [if_pos hq1]; exact hgG q hq1
      · rw [if_neg hq1, if_pos (by omega), hev _ (by omega)]; congr 1; omega
/-- A contract over a list that hands back any of a kind, by other names. -/
theorem FunS.mvL {G : Hp} {f : FuncId} {args args' : Array Value} {m : List (Nat × Blk)} {B : Nat} {R R' : Value → List (Nat × Blk) → Prop} {hp' : Hp} {rs' : List Nat} (h : FunS P G f args (hpL G m) (keys m) R) (hGF : GFlat G) (hm : LOk m B) (ρ : Nat → Nat) (hlow : ∀ k, k < 100 → ρ k = k)
    (ea : args.map (ren ρ) = args') (er : (keys m).map ρ = rs') (eR : RR ρ R = R') (hp0 : ∀ k, k < 100 → hp' k = G k) (hat : ∀ p ∈ m, 100 ≤ ρ p.1 ∧ hp' (ρ p.1) = some (p.2.rn ρ)) (hinj : ∀ k ∈ keys m, ∀ l ∈ keys m, ρ k = ρ l → k = l)
    (hnew : ∀ v ns, R v ns → ∀ k ∈ keys ns, 100 ≤ ρ k ∧ ρ k ∉ rs') (hnj : ∀ v ns, R v ns → ∀ k ∈ keys ns, ∀ l ∈ keys ns, ρ k = ρ l → k = l) : FunS P G f args' hp' rs' R' := by
  subst ea er eR
  refine h.rn ρ hGF hm.low (rn_ofL hm ρ hlow hp0 hat hinj) (fun v ns hR k hk => ?_) hnj
  obtain ⟨h1, h2⟩ := hnew v ns hR k hk
  refine ⟨h1, fun hd => hd ?_⟩
  unfold rst
  rw [if_neg]
  rintro (h3 | h3)
  · omega
  · exact h2 h3
/-- What a call asks that hands back any of a kind; the variables by name. -/
theorem GL_callL {G : Hp} {ops : Array Oper} {o : Oper} {post : List Oper} {base k : Nat} {ts : Nat → Value} {hp hp' : Hp} {yc : Nat} {c : Call} {f : Operand} {g : FuncId} {cap : Array Value} {rs : List Nat} {args : Array Value} {R : Value → List (Nat × Blk) → Prop} (hCG : C.G = G) (hr : FunS P G g args hp' rs R) (hg : o.guard = none) (hd : ∀ dd, o.dst = some dd → dd < n)
    (ho : o.op = .call c) (hc : c.callee = .value f) (hf : okT ts f) (hgf : gev ts f = .func (.func g) #[] cap) (hcp : cap.all plain0 = true) (ha : ∀ x ∈ c.args.toList, okX ts hp x) (hargs : c.args.map (gev ts) ++ cap = args)
    (h1 : ∀ q ∈ rs, hp' q = hp q) (h2 : ∀ q, q < 100 → hp' q = hp q) (hat : ∀ v ns, R v ns → ∀ q ∈ keys ns, base + 8 * k ≤ q ∧ q < base + 8 * k + 8)
    (h : ∀ v ns, R v ns → GL P C n d ro ops base (k + 1) post (putT ts o.dst v) (updL hp ns) yc K) : GL P C n d ro ops base k (o :: post) ts hp yc K := by
  subst hCG
  exact GL_callS hg hd ho hc hf hgf hcp ha hargs hr h1 h2 hat h
end
end Go.Gy
namespace Go.Gy
set_option linter.unusedSimpArgs false
set_option linter.unusedVariables false
open Go Go.RowKit Go.Proofs
/-- Bodies of one's own: a new row that holds them. -/
def OwnR (nk n : Nat) (f : Nat → Int) (v : Value) (ns : List (Nat × Blk)) : Prop := ∃ (c M : Nat) (g : Nat → Int), n ≤ c ∧ 6 * n ≤ M ∧ (∀ j, j < 6 * n → g j = f j) ∧ v = .slice (some ⟨nk, 0, none⟩) n c ∧ ns = [(nk, ⟨fa M .i64 g, .ty 44⟩)]
theorem fa_fx (M : Nat) (g : Nat → Int) (T : TypeId) : Blk.fx ⟨fa M .i64 g, .ty T⟩ := fun x hx => by
  obtain ⟨m, rfl⟩ := fa_mem hx; rfl
theorem own_fit {b : Blk} {n : Nat} {f : Nat → Int} (v : Value) (ns : List (Nat × Blk)) (h : OwnR 1000 n f v ns) : idsV (extD (fun k => k ∈ keys [(100, b)]) ns) v ∧ (∀ p ∈ ns, 200 ≤ p.1 ∧ p.2.ids (extD (fun k => k ∈ keys [(100, b)]) ns)) ∧ (∀ k b c, (k, b) ∈ ns → (k, c) ∈ ns → b = c) := by
  obtain ⟨c, M, g, h1, h2, h3, rfl, rfl⟩ := h
  refine ⟨by simp [idsV, idsA, idsF, ids0, extD, keys], ?_, ?_⟩
  · simp only [List.mem_singleton, forall_eq]
    exact ⟨by omega, Blk.fx_ids (fa_fx _ _ _) _⟩
  · intro k b c h1 h2
    simp at h1 h2
    rw [h1.2, h2.2]
theorem clone_fun (b : Blk) (off n cap : Nat) (f : Nat → Int) (h : SB b off n f) (hcap : n ≤ cap) :
    FunS Tryd.prog G0 81 #[.slice (some ⟨100, off, none⟩) n cap] (hpL G0 [(100, b)]) (keys [(100, b)]) (OwnR 1000 n f) := by
  refine newS_ofL (B := 200) G0F Tryd.func81 rfl Tryd.call81 (oneL_ok h.fx) ?_ own_fit (by simp [Tryd.ntmps81]) (by omega) ?_
  · simp [idsV, idsA, idsF, ids0, keys]
  intro C hC hC0 hY
  have hnn := h.nn
  repeat' (first | refine GW_seq ?_ | simp only [List.length_cons, List.length_nil, Nat.reduceAdd, Nat.reduceMul, wN] | ((first | refine GW_region' [] (by kernel_rfl) ?_ | refine GW_draw' [] follows (by kernel_rfl) (by kernel_rfl) ?_); intro Q hQ hP; simp [hC, hY]; (first | refine hQ _ _ _ _ ?_ | refine hQ _ _ _ _ (by kernel_rfl) ?_ | refine hP _ _ (fun _ => ?_) | refine hP _ _ (by kernel_rfl) (fun _ => ?_)); clear hQ hP Q) | refine GW_block ?_ | refine GW_ret ?_ | refine GW_skip ?_ | refine GW_exit ?_ | refine GW_goto ?_ | refine GW_label ?_ | simp only [blockG_exit] | (refine GW_cond (by simp; rfl) ?_ ?_ <;> (intro hb; first | (exfalso; exact absurd hb (by decide)) | skip)))
  refine GW_list ?_
  simp only [Array.toList]
  refine GL_bs0 rfl (by simp) rfl Tryd.underlying22 (tySize_of Tryd.sizeOf44) ?_
  refine GL_walk 1 [] rfl (by simp) (by kernel_rfl) ?_; intro q hq; simp [hC, hY]; refine hq _ _ _ _ ?_; clear hq q
  simp only [wT, List.length_cons, List.length_nil, Nat.reduceAdd]
  by_cases hn0 : n = 0
  · subst hn0
    refine GL_appZ (p := some (224, 0)) (q := some (100, off)) rfl (by simp) rfl Tryd.underlying22 (tySize_of Tryd.sizeOf44) (by simp; rfl) (by simp; rfl) (Nat.le_refl _) ?_
    refine GL_walk 1 [] rfl (by simp) (by kernel_rfl) ?_; intro q hq; simp [hC, hY, putT]; refine hq _ _ _ _ ?_; clear hq q
    simp only [wT, List.length_cons, List.length_nil, Nat.reduceAdd]
    refine GL_nil ?_
    repeat' (first | refine GW_seq ?_ | simp only [List.length_cons, List.length_nil, Nat.reduceAdd, Nat.reduceMul, wN] | ((first | refine GW_region' [] (by kernel_rfl) ?_ | refine GW_draw' [] follows (by kernel_rfl) (by kernel_rfl) ?_); intro Q hQ hP; simp [hC, hY]; (first | refine hQ _ _ _ _ ?_ | refine hQ _ _ _ _ (by kernel_rfl) ?_ | refine hP _ _ (fun _ => ?_) | refine hP _ _ (by kernel_rfl) (fun _ => ?_)); clear hQ hP Q) | refine GW_block ?_ | refine GW_ret ?_ | refine GW_skip ?_ | refine GW_exit ?_ | refine GW_goto ?_ | refine GW_label ?_ | simp only [blockG_exit] | (refine GW_cond (by simp; rfl) ?_ ?_ <;> (intro hb; first | (exfalso; exact absurd hb (by decide)) | skip)))
    refine ⟨.inr trivial, keep_of G0F (by simp) (by (intro k hk; first | rfl | (simp (disch := omega) only [addB, List.mem_cons, List.not_mem_nil, or_false, upd_other, hpL_cons, hpL_nil, if_neg, updL] <;> done))), _, _, fun k => if k = 1000 then 224 else k, ⟨0, 0, f, Nat.le_refl _, by omega, fun _ _ => rfl, rfl, rfl⟩, fun k hk => if_neg (by omega), by simp, by simp, by simp [Tryd.results81, ren, renA, renF, ren0], ?_⟩
    simp [fa, Blk.rn]
  · refine GL_app0 (p := some ⟨224, 0, none⟩) (j := 100) (b2 := b) (off2 := off) (m := n) (m' := cap) (nw := (fa (6 * n) .i64 f).toList) (sz := 6) (by' := 48) (z := .agg #[.int .i64 0, .int .i64 0, .int .i64 0, .int .i64 0, .int .i64 0, .int .i64 0]) rfl (by simp) rfl Tryd.underlying22 (tySize_of Tryd.sizeOf44) ?_ ?_ ?_ ?_ ?_ (rdI_nw h.rd) fa_list_flat (fun q x hx => ?_) (by omega) (by simp; omega) (by unfold maxLen; omega) (by omega) (fun cap' hc' => ?_)
    · kernel_rfl
    · kernel_rfl
    · simp
    · simp
    · simp
    · have := zc_mem hx
      simp [Value.cells] at this
      subst this
      rfl
    · rw [zeros_fa (k := .i64) (by simp), app_new]
      refine GL_walk 1 [] rfl (by simp) (by kernel_rfl) ?_; intro q hq; simp [hC, hY, putT]; refine hq _ _ _ _ ?_; clear hq q
      simp only [wT, List.length_cons, List.length_nil, Nat.reduceAdd]
      refine GL_nil ?_
      repeat' (first | refine GW_seq ?_ | simp only [List.length_cons, List.length_nil, Nat.reduceAdd, Nat.reduceMul, wN] | ((first | refine GW_region' [] (by kernel_rfl) ?_ | refine GW_draw' [] follows (by kernel_rfl) (by kernel_rfl) ?_); intro Q hQ hP; simp [hC, hY]; (first | refine hQ _ _ _ _ ?_ | refine hQ _ _ _ _ (by kernel_rfl) ?_ | refine hP _ _ (fun _ => ?_) | refine hP _ _ (by kernel_rfl) (fun _ => ?_)); clear hQ hP Q) | refine GW_block ?_ | refine GW_ret ?_ | refine GW_skip ?_ | refine GW_exit ?_ | refine GW_goto ?_ | refine GW_label ?_ | simp only [blockG_exit] | (refine GW_cond (by simp; rfl) ?_ ?_ <;> (intro hb; first | (exfalso; exact absurd hb (by decide)) | skip)))
      refine ⟨.inr trivial, keep_of G0F (by simp) (by (intro k hk; first | rfl | (simp (disch := omega) only [addB, List.mem_cons, List.not_mem_nil, or_false, upd_other, hpL_cons, hpL_nil, if_neg, updL] <;> done))), _, _, fun k => if k = 1000 then 224 + 16 else k, ⟨cap', 6 * n + (cap' - n) * 6, catN f (6 * n) 0 f, hc', ?_, ?_, rfl, rfl⟩, fun k hk => if_neg (by omega), by simp, by simp, by simp [Tryd.results81, ren, renA, renF, ren0], ?_⟩
      · omega
      · intro j hj
        unfold catN
        rw [if_pos (by omega)]
      · simp only [List.mem_singleton, forall_eq]
        rw [fa_rn]
        simp
/-- A state of one's own. -/
def OwnS (nk : Nat) (st : Int) (n : Nat) (f : Nat → Int) (v : Value) (ns : List (Nat × Blk)) : Prop := ∃ (c M : Nat) (g : Nat → Int), n ≤ c ∧ 6 * n ≤ M ∧ (∀ j, j < 6 * n → g j = f j) ∧ v = .agg #[.int .i64 st, .slice (some ⟨nk, 0, none⟩) n c] ∧ ns = [(nk, ⟨fa M .i64 g, .ty 44⟩)]
theorem owns_fit {b : Blk} {st : Int} {n : Nat} {f : Nat → Int} (v : Value) (ns : List (Nat × Blk)) (h : OwnS 1000 st n f v ns) : idsV (extD (fun k => k ∈ keys [(100, b)]) ns) v ∧ (∀ p ∈ ns, 200 ≤ p.1 ∧ p.2.ids (extD (fun k => k ∈ keys [(100, b)]) ns)) ∧ (∀ k b c, (k, b) ∈ ns → (k, c) ∈ ns → b = c) := by
  obtain ⟨c, M, g, h1, h2, h3, rfl, rfl⟩ := h
  refine ⟨by simp [idsV, idsA, idsF, ids0, extD, keys], ?_, ?_⟩
  · simp only [List.mem_singleton, forall_eq]
    exact ⟨by omega, Blk.fx_ids (fa_fx _ _ _) _⟩
  · intro k b c h1 h2
    simp at h1 h2
    rw [h1.2, h2.2]
/-- The contract by the names of the one who calls: block 100 stands there too; the new one's name is nk. -/
theorem FunS.own1 {fn : FuncId} {args : Array Value} {b : Blk} {R : Value → List (Nat × Blk) → Prop} (h : FunS Tryd.prog G0 fn args (hpL G0 [(100, b)]) (keys [(100, b)]) R) (hb : b.fx) (nk : Nat) (hnk : 200 ≤ nk) (hR : ∀ v ns, R v ns → ∀ k ∈ keys ns, k = 1000) (ha : args.map (ren fun k => if k = 1000 then nk else k) = args) :
    FunS Tryd.prog G0 fn args (hpL G0 [(100, b)]) [100] (RR (fun k => if k = 1000 then nk else k) R) := by
  have h0 := h.rn (fun k => if k = 1000 then nk else k) G0F (oneL_ok hb).low (hp' := hpL G0 [(100, b)]) (rn_ofL (oneL_ok hb) _ (fun k hk => if_neg (by omega)) (oneL_ok hb).low (by
    simp only [List.mem_singleton, forall_eq]
    refine ⟨by simp, ?_⟩
    rw [Blk.fx_rn hb]; simp) (by simp [keys])) (fun v ns hr k hk => by
    rw [hR v ns hr k hk, if_pos rfl]
    refine ⟨by omega, fun hd => hd ?_⟩
    simp [rst, keys, show ¬ nk = 100 by omega, show ¬ nk < 100 by omega]) (fun v ns hr k hk l hl _ => by rw [hR v ns hr k hk, hR v ns hr l hl])
  rw [ha] at h0
  simpa [keys] using h0
theorem ownR_rr (nk n : Nat) (f : Nat → Int) : RR (fun k => if k = 1000 then nk else k) (OwnR 1000 n f) = OwnR nk n f := by
  funext v ns
  apply propext
  constructor
  · rintro ⟨v0, ns0, ⟨c, M, g, h1, h2, h3, rfl, rfl⟩, rfl, rfl⟩
    exact ⟨c, M, g, h1, h2, h3, by simp [ren, renA, renF, ren0], by simp [rnL, fa_rn]⟩
  · rintro ⟨c, M, g, h1, h2, h3, rfl, rfl⟩
    exact ⟨_, _, ⟨c, M, g, h1, h2, h3, rfl, rfl⟩, by simp [ren, renA, renF, ren0], by simp [rnL, fa_rn]⟩
theorem ownS_rr (nk : Nat) (st : Int) (n : Nat) (f : Nat → Int) : RR (fun k => if k = 1000 then nk else k) (OwnS 1000 st n f) = OwnS nk st n f := by
  funext v ns
  apply propext
  constructor
  · rintro ⟨v0, ns0, ⟨c, M, g, h1, h2, h3, rfl, rfl⟩, rfl, rfl⟩
    exact ⟨c, M, g, h1, h2, h3, by simp [ren, renA, renF, ren0], by simp [rnL, fa_rn]⟩
  · rintro ⟨c, M, g, h1, h2, h3, rfl, rfl⟩
    exact ⟨_, _, ⟨c, M, g, h1, h2, h3, rfl, rfl⟩, by simp [ren, renA, renF, ren0], by simp [rnL, fa_rn]⟩
theorem clone_at (nk : Nat) (hnk : 200 ≤ nk) (b : Blk) (off n cap : Nat) (f : Nat → Int) (h : SB b off n f) (hcap : n ≤ cap) :
    FunS Tryd.prog G0 81 #[.slice (some ⟨100, off, none⟩) n cap] (hpL G0 [(100, b)]) [100] (OwnR nk n f) := by
  have := (clone_fun b off n cap f h hcap).own1 h.fx nk hnk (fun v ns hR k hk => by
    obtain ⟨c, M, g, h1, h2, h3, rfl, rfl⟩ := hR; simpa [keys] using hk) (by simp [ren, renA, renF, ren0])
  rwa [ownR_rr] at this
theorem own_fun (b : Blk) (off n cap : Nat) (f : Nat → Int) (h : SB b off n f) (hcap : n ≤ cap) (st : Int) :
    FunS Tryd.prog G0 47 #[.agg #[.int .i64 st, .slice (some ⟨100, off, none⟩) n cap]] (hpL G0 [(100, b)]) (keys [(100, b)]) (OwnS 1000 st n f) := by
  refine newS_ofL (B := 200) G0F Tryd.func47 rfl Tryd.call47 (oneL_ok h.fx) ?_ owns_fit (by simp [Tryd.ntmps47]) (by omega) ?_
  · simp [idsV, idsA, idsF, ids0, keys]
  intro C hC hC0 hY
  repeat' (first | refine GW_seq ?_ | simp only [List.length_cons, List.length_nil, Nat.reduceAdd, Nat.reduceMul, wN] | ((first | refine GW_region' [] (by kernel_rfl) ?_ | refine GW_draw' [] follows (by kernel_rfl) (by kernel_rfl) ?_); intro Q hQ hP; simp [hC, hY]; (first | refine hQ _ _ _ _ ?_ | refine hQ _ _ _ _ (by kernel_rfl) ?_ | refine hP _ _ (fun _ => ?_) | refine hP _ _ (by kernel_rfl) (fun _ => ?_)); clear hQ hP Q) | refine GW_block ?_ | refine GW_ret ?_ | refine GW_skip ?_ | refine GW_exit ?_ | refine GW_goto ?_ | refine GW_label ?_ | simp only [blockG_exit] | (refine GW_cond (by simp; rfl) ?_ ?_ <;> (intro hb; first | (exfalso; exact absurd hb (by decide)) | skip)))
  refine GW_list ?_
  simp only [Array.toList]
  refine GL_walk 2 [] rfl (by simp) (by kernel_rfl) ?_; intro q hq; simp [hC, hY]; refine hq _ _ _ _ ?_; clear hq q
  simp only [wT, List.length_cons, List.length_nil, Nat.reduceAdd]
  refine GL_callS (f := .func 81) (args := #[.slice (some ⟨100, off, none⟩) n cap]) (cap := #[]) rfl (by simp) rfl rfl (by simp [okT]) (by simp [gev]) (by simp) (by simp [okX, junk]) (by simp [gev]) (hC.symm ▸ clone_at 232 (by omega) b off n cap f h hcap) (by simp) (by rw [← hC]; (intro k hk; first | rfl | (simp (disch := omega) only [addB, List.mem_cons, List.not_mem_nil, or_false, upd_other, hpL_cons, hpL_nil, if_neg, updL] <;> done))) ?_ ?_
  · rintro v ns ⟨c, M, g, h1, h2, h3, rfl, rfl⟩
    simp [keys]
  · rintro v ns ⟨c, M, g, h1, h2, h3, rfl, rfl⟩
    refine GL_walk 2 [] rfl (by simp) (by kernel_rfl) ?_; intro q hq; simp [hC, hY, putT, updL]; refine hq _ _ _ _ ?_; clear hq q
    simp only [wT, List.length_cons, List.length_nil, Nat.reduceAdd]
    refine GL_nil ?_
    repeat' (first | refine GW_seq ?_ | simp only [List.length_cons, List.length_nil, Nat.reduceAdd, Nat.reduceMul, wN] | ((first | refine GW_region' [] (by kernel_rfl) ?_ | refine GW_draw' [] follows (by kernel_rfl) (by kernel_rfl) ?_); intro Q hQ hP; simp [hC, hY]; (first | refine hQ _ _ _ _ ?_ | refine hQ _ _ _ _ (by kernel_rfl) ?_ | refine hP _ _ (fun _ => ?_) | refine hP _ _ (by kernel_rfl) (fun _ => ?_)); clear hQ hP Q) | refine GW_block ?_ | refine GW_ret ?_ | refine GW_skip ?_ | refine GW_exit ?_ | refine GW_goto ?_ | refine GW_label ?_ | simp only [blockG_exit] | (refine GW_cond (by simp; rfl) ?_ ?_ <;> (intro hb; first | (exfalso; exact absurd hb (by decide)) | skip)))
    refine ⟨.inr trivial, keep_of G0F (by simp) (by (intro k hk; first | rfl | (simp (disch := omega) only [addB, List.mem_cons, List.not_mem_nil, or_false, upd_other, hpL_cons, hpL_nil, if_neg, updL] <;> done))), _, _, fun k => if k = 1000 then 232 else k, ⟨c, M, g, h1, h2, h3, rfl, rfl⟩, fun k hk => if_neg (by omega), by simp, by simp, by simp [Tryd.results47, ren, renA, renF, ren0], ?_⟩
    simp [fa_rn]
theorem own_at (nk : Nat) (hnk : 200 ≤ nk) (b : Blk) (off n cap : Nat) (f : Nat → Int) (h : SB b off n f) (hcap : n ≤ cap) (st : Int) :
    FunS Tryd.prog G0 47 #[.agg #[.int .i64 st, .slice (some ⟨100, off, none⟩) n cap]] (hpL G0 [(100, b)]) [100] (OwnS nk st n f) := by
  have := (own_fun b off n cap f h hcap st).own1 h.fx nk hnk (fun v ns hR k hk => by
    obtain ⟨c, M, g, h1, h2, h3, rfl, rfl⟩ := hR; simpa [keys] using hk) (by simp [ren, renA, renF, ren0])
  rwa [ownS_rr] at this
end Go.Gy
namespace Go.Gy
set_option linter.unusedSimpArgs false
set_option linter.unusedVariables false
open Go Go.RowKit Go.Proofs
theorem own10_fun (b : Blk) (off n cap : Nat) (f : Nat → Int) (h : SB b off n f) (hcap : n ≤ cap) (st : Int) :
    FunS Tryd.prog G0 39 #[.agg #[.int .i64 st, .slice (some ⟨100, off, none⟩) n cap]] (hpL G0 [(100, b)]) (keys [(100, b)]) (OwnS 1000 st n f) := by
  refine newS_ofL (B := 200) G0F Tryd.func39 rfl Tryd.call39 (oneL_ok h.fx) ?_ owns_fit (by simp [Tryd.ntmps39]) (by omega) ?_
  · simp [idsV, idsA, idsF, ids0, keys]
  intro C hC hC0 hY
  have hnn := h.nn
  repeat' (first | refine GW_seq ?_ | simp only [List.length_cons, List.length_nil, Nat.reduceAdd, Nat.reduceMul, wN] | ((first | refine GW_region' [] (by kernel_rfl) ?_ | refine GW_draw' [] follows (by kernel_rfl) (by kernel_rfl) ?_); intro Q hQ hP; simp [hC, hY]; (first | refine hQ _ _ _ _ ?_ | refine hQ _ _ _ _ (by kernel_rfl) ?_ | refine hP _ _ (fun _ => ?_) | refine hP _ _ (by kernel_rfl) (fun _ => ?_)); clear hQ hP Q) | refine GW_block ?_ | refine GW_ret ?_ | refine GW_skip ?_ | refine GW_exit ?_ | refine GW_goto ?_ | refine GW_label ?_ | simp only [blockG_exit] | (refine GW_cond (by simp; rfl) ?_ ?_ <;> (intro hb; first | (exfalso; exact absurd hb (by decide)) | skip)))
  refine GW_list ?_
  simp only [Array.toList]
  refine GL_bs0 rfl (by simp) rfl Tryd.underlying22 (tySize_of Tryd.sizeOf44) ?_
  refine GL_walk 2 [] rfl (by simp) (by kernel_rfl) ?_; intro q hq; simp [hC, hY]; refine hq _ _ _ _ ?_; clear hq q
  simp only [wT, List.length_cons, List.length_nil, Nat.reduceAdd]
  by_cases hn0 : n = 0
  · subst hn0
    refine GL_appZ (p := some (216, 0)) (q := some (100, off)) rfl (by simp) rfl Tryd.underlying22 (tySize_of Tryd.sizeOf44) (by simp; rfl) (by simp; rfl) (Nat.le_refl _) ?_
    refine GL_walk 2 [] rfl (by simp) (by kernel_rfl) ?_; intro q hq; simp [hC, hY, putT]; refine hq _ _ _ _ ?_; clear hq q
    simp only [wT, List.length_cons, List.length_nil, Nat.reduceAdd]
    refine GL_nil ?_
    repeat' (first | refine GW_seq ?_ | simp only [List.length_cons, List.length_nil, Nat.reduceAdd, Nat.reduceMul, wN] | ((first | refine GW_region' [] (by kernel_rfl) ?_ | refine GW_draw' [] follows (by kernel_rfl) (by kernel_rfl) ?_); intro Q hQ hP; simp [hC, hY]; (first | refine hQ _ _ _ _ ?_ | refine hQ _ _ _ _ (by kernel_rfl) ?_ | refine hP _ _ (fun _ => ?_) | refine hP _ _ (by kernel_rfl) (fun _ => ?_)); clear hQ hP Q) | refine GW_block ?_ | refine GW_ret ?_ | refine GW_skip ?_ | refine GW_exit ?_ | refine GW_goto ?_ | refine GW_label ?_ | simp only [blockG_exit] | (refine GW_cond (by simp; rfl) ?_ ?_ <;> (intro hb; first | (exfalso; exact absurd hb (by decide)) | skip)))
    refine ⟨.inr trivial, keep_of G0F (by simp) (by (intro k hk; first | rfl | (simp (disch := omega) only [addB, List.mem_cons, List.not_mem_nil, or_false, upd_other, hpL_cons, hpL_nil, if_neg, updL] <;> done))), _, _, fun k => if k = 1000 then 216 else k, ⟨0, 0, f, Nat.le_refl _, by omega, fun _ _ => rfl, rfl, rfl⟩, fun k hk => if_neg (by omega), by simp, by simp, by simp [Tryd.results39, ren, renA, renF, ren0], ?_⟩
    simp [fa, Blk.rn]
  · refine GL_app0 (p := some ⟨216, 0, none⟩) (j := 100) (b2 := b) (off2 := off) (m := n) (m' := cap) (nw := (fa (6 * n) .i64 f).toList) (sz := 6) (by' := 48) (z := .agg #[.int .i64 0, .int .i64 0, .int .i64 0, .int .i64 0, .int .i64 0, .int .i64 0]) rfl (by simp) rfl Tryd.underlying22 (tySize_of Tryd.sizeOf44) ?_ ?_ ?_ ?_ ?_ (rdI_nw h.rd) fa_list_flat (fun q x hx => ?_) (by omega) (by simp; omega) (by unfold maxLen; omega) (by omega) (fun cap' hc' => ?_)
    · kernel_rfl
    · kernel_rfl
    · simp
    · simp
    · simp
    · have := zc_mem hx
      simp [Value.cells] at this
      subst this
      rfl
    · rw [zeros_fa (k := .i64) (by simp), app_new]
      refine GL_walk 2 [] rfl (by simp) (by kernel_rfl) ?_; intro q hq; simp [hC, hY, putT]; refine hq _ _ _ _ ?_; clear hq q
      simp only [wT, List.length_cons, List.length_nil, Nat.reduceAdd]
      refine GL_nil ?_
      repeat' (first | refine GW_seq ?_ | simp only [List.length_cons, List.length_nil, Nat.reduceAdd, Nat.reduceMul, wN] | ((first | refine GW_region' [] (by kernel_rfl) ?_ | refine GW_draw' [] follows (by kernel_rfl) (by kernel_rfl) ?_); intro Q hQ hP; simp [hC, hY]; (first | refine hQ _ _ _ _ ?_ | refine hQ _ _ _ _ (by kernel_rfl) ?_ | refine hP _ _ (fun _ => ?_) | refine hP _ _ (by kernel_rfl) (fun _ => ?_)); clear hQ hP Q) | refine GW_block ?_ | refine GW_ret ?_ | refine GW_skip ?_ | refine GW_exit ?_ | refine GW_goto ?_ | refine GW_label ?_ | simp only [blockG_exit] | (refine GW_cond (by simp; rfl) ?_ ?_ <;> (intro hb; first | (exfalso; exact absurd hb (by decide)) | skip)))
      refine ⟨.inr trivial, keep_of G0F (by simp) (by (intro k hk; first | rfl | (simp (disch := omega) only [addB, List.mem_cons, List.not_mem_nil, or_false, upd_other, hpL_cons, hpL_nil, if_neg, updL] <;> done))), _, _, fun k => if k = 1000 then 216 + 24 else k, ⟨cap', 6 * n + (cap' - n) * 6, catN f (6 * n) 0 f, hc', ?_, ?_, rfl, rfl⟩, fun k hk => if_neg (by omega), by simp, by simp, by simp [Tryd.results39, ren, renA, renF, ren0], ?_⟩
      · omega
      · intro j hj
        unfold catN
        rw [if_pos (by omega)]
      · simp only [List.mem_singleton, forall_eq]
        rw [fa_rn]
        simp
theorem own10_at (nk : Nat) (hnk : 200 ≤ nk) (b : Blk) (off n cap : Nat) (f : Nat → Int) (h : SB b off n f) (hcap : n ≤ cap) (st : Int) :
    FunS Tryd.prog G0 39 #[.agg #[.int .i64 st, .slice (some ⟨100, off, none⟩) n cap]] (hpL G0 [(100, b)]) [100] (OwnS nk st n f) := by
  have := (own10_fun b off n cap f h hcap st).own1 h.fx nk hnk (fun v ns hR k hk => by
    obtain ⟨c, M, g, h1, h2, h3, rfl, rfl⟩ := hR; simpa [keys] using hk) (by simp [ren, renA, renF, ren0])
  rwa [ownS_rr] at this
/-! of no bodies -/
theorem clone_nil : Ret Tryd.prog G0 81 #[.slice none 0 0] (.slice none 0 0) := by
  refine ret_of G0F Tryd.func81 rfl Tryd.call81 (by simp) (by simp) (by simp [Tryd.ntmps81]) ?_
  intro C hC hC0 hY
  repeat' (first | refine GW_seq ?_ | simp only [List.length_cons, List.length_nil, Nat.reduceAdd, Nat.reduceMul, wN] | ((first | refine GW_region' [] (by kernel_rfl) ?_ | refine GW_draw' [] follows (by kernel_rfl) (by kernel_rfl) ?_); intro Q hQ hP; simp [hC, hY]; (first | refine hQ _ _ _ _ ?_ | refine hQ _ _ _ _ (by kernel_rfl) ?_ | refine hP _ _ (fun _ => ?_) | refine hP _ _ (by kernel_rfl) (fun _ => ?_)); clear hQ hP Q) | refine GW_block ?_ | refine GW_ret ?_ | refine GW_skip ?_ | refine GW_exit ?_ | refine GW_goto ?_ | refine GW_label ?_ | simp only [blockG_exit] | (refine GW_cond (by simp; rfl) ?_ ?_ <;> (intro hb; first | (exfalso; exact absurd hb (by decide)) | skip)))
  refine ⟨.inr trivial, ?_⟩
  simp [Tryd.results81]
@[simp] theorem cloneN (K : Value → Prop) : callK Tryd.prog G0 81 #[.slice none 0 0] K ↔ K (.slice none 0 0) := callK_iff G0W (by kernel_rfl) clone_nil
theorem own_nil (st : Int) : Ret Tryd.prog G0 47 #[.agg #[.int .i64 st, .slice none 0 0]] (.agg #[.int .i64 st, .slice none 0 0]) := by
  refine ret_of G0F Tryd.func47 rfl Tryd.call47 (by simp) (by simp) (by simp [Tryd.ntmps47]) ?_
  intro C hC hC0 hY
  repeat' (first | refine GW_seq ?_ | simp only [List.length_cons, List.length_nil, Nat.reduceAdd, Nat.reduceMul, wN] | ((first | refine GW_region' [] (by kernel_rfl) ?_ | refine GW_draw' [] follows (by kernel_rfl) (by kernel_rfl) ?_); intro Q hQ hP; simp [hC, hY]; (first | refine hQ _ _ _ _ ?_ | refine hQ _ _ _ _ (by kernel_rfl) ?_ | refine hP _ _ (fun _ => ?_) | refine hP _ _ (by kernel_rfl) (fun _ => ?_)); clear hQ hP Q) | refine GW_block ?_ | refine GW_ret ?_ | refine GW_skip ?_ | refine GW_exit ?_ | refine GW_goto ?_ | refine GW_label ?_ | simp only [blockG_exit] | (refine GW_cond (by simp; rfl) ?_ ?_ <;> (intro hb; first | (exfalso; exact absurd hb (by decide)) | skip)))
  refine ⟨.inr trivial, ?_⟩
  simp [Tryd.results47]
@[simp] theorem ownN (st : Int) (K : Value → Prop) : callK Tryd.prog G0 47 #[.agg #[.int .i64 st, .slice none 0 0]] K ↔ K (.agg #[.int .i64 st, .slice none 0 0]) := callK_iff G0W (by kernel_rfl) (own_nil st)
theorem nilL_ok : LOk [] 200 := ⟨by simp, by simp [keys], by simp⟩
theorem own10_nil (st : Int) : FunS Tryd.prog G0 39 #[.agg #[.int .i64 st, .slice none 0 0]] (hpL G0 []) (keys []) (OwnS 1000 st 0 fun _ => 0) := by
  refine newS_ofL (B := 200) G0F Tryd.func39 rfl Tryd.call39 nilL_ok ?_ ?_ (by simp [Tryd.ntmps39]) (by omega) ?_
  · simp [idsV, idsA, idsF, ids0, keys]
  · intro v ns h
    obtain ⟨c, M, g, h1, h2, h3, rfl, rfl⟩ := h
    refine ⟨by simp [idsV, idsA, idsF, ids0, extD, keys], ?_, ?_⟩
    · simp only [List.mem_singleton, forall_eq]
      exact ⟨by omega, Blk.fx_ids (fa_fx _ _ _) _⟩
    · intro k b c h1 h2
      simp at h1 h2
      rw [h1.2, h2.2]
  intro C hC hC0 hY
  repeat' (first | refine GW_seq ?_ | simp only [List.length_cons, List.length_nil, Nat.reduceAdd, Nat.reduceMul, wN] | ((first | refine GW_region' [] (by kernel_rfl) ?_ | refine GW_draw' [] follows (by kernel_rfl) (by kernel_rfl) ?_); intro Q hQ hP; simp [hC, hY]; (first | refine hQ _ _ _ _ ?_ | refine hQ _ _ _ _ (by kernel_rfl) ?_ | refine hP _ _ (fun _ => ?_) | refine hP _ _ (by kernel_rfl) (fun _ => ?_)); clear hQ hP Q) | refine GW_block ?_ | refine GW_ret ?_ | refine GW_skip ?_ | refine GW_exit ?_ | refine GW_goto ?_ | refine GW_label ?_ | simp only [blockG_exit] | (refine GW_cond (by simp; rfl) ?_ ?_ <;> (intro hb; first | (exfalso; exact absurd hb (by decide)) | skip)))
  refine GW_list ?_
  simp only [Array.toList]
  refine GL_bs0 rfl (by simp) rfl Tryd.underlying22 (tySize_of Tryd.sizeOf44) ?_
  refine GL_walk 2 [] rfl (by simp) (by kernel_rfl) ?_; intro q hq; simp [hC, hY]; refine hq _ _ _ _ ?_; clear hq q
  simp only [wT, List.length_cons, List.length_nil, Nat.reduceAdd]
  refine GL_appZ (p := some (216, 0)) (q := none) rfl (by simp) rfl Tryd.underlying22 (tySize_of Tryd.sizeOf44) (by simp; rfl) (by simp; rfl) (Nat.le_refl _) ?_
  refine GL_walk 2 [] rfl (by simp) (by kernel_rfl) ?_; intro q hq; simp [hC, hY, putT]; refine hq _ _ _ _ ?_; clear hq q
  simp only [wT, List.length_cons, List.length_nil, Nat.reduceAdd]
  refine GL_nil ?_
  repeat' (first | refine GW_seq ?_ | simp only [List.length_cons, List.length_nil, Nat.reduceAdd, Nat.reduceMul, wN] | ((first | refine GW_region' [] (by kernel_rfl) ?_ | refine GW_draw' [] follows (by kernel_rfl) (by kernel_rfl) ?_); intro Q hQ hP; simp [hC, hY]; (first | refine hQ _ _ _ _ ?_ | refine hQ _ _ _ _ (by kernel_rfl) ?_ | refine hP _ _ (fun _ => ?_) | refine hP _ _ (by kernel_rfl) (fun _ => ?_)); clear hQ hP Q) | refine GW_block ?_ | refine GW_ret ?_ | refine GW_skip ?_ | refine GW_exit ?_ | refine GW_goto ?_ | refine GW_label ?_ | simp only [blockG_exit] | (refine GW_cond (by simp; rfl) ?_ ?_ <;> (intro hb; first | (exfalso; exact absurd hb (by decide)) | skip)))
  refine ⟨.inr trivial, keep_of G0F (by simp) (by (intro k hk; first | rfl | (simp (disch := omega) only [addB, List.mem_cons, List.not_mem_nil, or_false, upd_other, hpL_cons, hpL_nil, if_neg, updL] <;> done))), _, _, fun k => if k = 1000 then 216 else k, ⟨0, 0, fun _ => 0, Nat.le_refl _, by omega, fun _ _ => rfl, rfl, rfl⟩, fun k hk => if_neg (by omega), by simp, by simp, by simp [Tryd.results39, ren, renA, renF, ren0], ?_⟩
  simp [fa, Blk.rn]
theorem own10_nil_at (nk : Nat) (hnk : 200 ≤ nk) (st : Int) : FunS Tryd.prog G0 39 #[.agg #[.int .i64 st, .slice none 0 0]] (hpL G0 []) [] (OwnS nk st 0 fun _ => 0) := by
  have h0 := (own10_nil st).rn (fun k => if k = 1000 then nk else k) G0F nilL_ok.low (hp' := hpL G0 []) (rn_ofL nilL_ok _ (fun k hk => if_neg (by omega)) nilL_ok.low (by simp) (by simp [keys])) (fun v ns hR k hk => by
    obtain ⟨c, M, g, h1, h2, h3, rfl, rfl⟩ := hR
    simp [keys] at hk
    subst hk
    refine ⟨by simp; omega, fun hd => hd ?_⟩
    simp [rst, keys]
    intro h4
    omega) (fun v ns hR k hk l hl _ => by
    obtain ⟨c, M, g, h1, h2, h3, rfl, rfl⟩ := hR
    simp [keys] at hk hl
    rw [hk, hl])
  rw [ownS_rr] at h0
  simpa [keys, ren, renA, renF, ren0] using h0
end Go.Gy
namespace Go.Gy
set_option linter.unusedSimpArgs false
set_option linter.unusedVariables false
open Go Go.RowKit Go.Proofs
/-! a body's drift -/
def dwE (f : Nat → Int) (p q : Int) (i : Nat) : Int := wyE (f (6 * i + 3)) (f (6 * i + 4)) (f (6 * i + 5)) p q
def dwV (f : Nat → Int) (p q : Int) (i j : Nat) : Int := eaV (dwE f p q i) (d1V (f (6 * i + 3 + j)) p q)
def dwA (f : Nat → Int) (p q : Int) (i : Nat) : Value := .agg #[.int .i64 (dwV f p q i 0), .int .i64 (dwV f p q i 1), .int .i64 (dwV f p q i 2)]
def dwXs (f : Nat → Int) (p q : Int) (n : Nat) : List (Array Value) := (List.range n).map fun i => #[dwA f p q i]
theorem dwXs_len (f : Nat → Int) (p q : Int) (n : Nat) : (dwXs f p q n).length = n := by simp [dwXs]
theorem dwXs_at (f : Nat → Int) (p q : Int) (n i : Nat) (h : i < n) : (dwXs f p q n)[i]? = some #[dwA f p q i] := by simp [dwXs, h]
/-! drift.ways -/
def stB' (st : Int) (k off n cap : Nat) : Blk := ⟨#[.int .i64 st, .slice (some ⟨k, off, none⟩) n cap], .ty 24⟩
def fnB (k1 k2 : Nat) : Blk := ⟨#[.func (.func 79) #[] #[.pointer (some ⟨k1, 0, none⟩), .pointer (some ⟨k2, 0, none⟩)]], .ty 73⟩
def wayNs (nk : Nat) (st : Int) (off n cap : Nat) (p q : Int) : List (Nat × Blk) := [(nk, stB' st 100 off n cap), (nk + 1, jb p), (nk + 2, jb q), (nk + 3, fnB (nk + 1) (nk + 2))]
def WayR (nk : Nat) (st : Int) (off n cap : Nat) (p q : Int) (v : Value) (ns : List (Nat × Blk)) : Prop := v = .func (.func 80) #[] #[.pointer (some ⟨nk, 0, none⟩), .pointer (some ⟨nk + 3, 0, none⟩)] ∧ ns = wayNs nk st off n cap p q
theorem ways_fun (b : Blk) (off n cap : Nat) (hb : b.fx) (st p q : Int) :
    FunS Tryd.prog G0 46 #[.agg #[.int .i64 st, .slice (some ⟨100, off, none⟩) n cap], .int .i64 p, .int .i64 q] (hpL G0 [(100, b)]) (keys [(100, b)]) (WayR 1000 st off n cap p q) := by
  refine newS_ofL (B := 200) G0F Tryd.func46 rfl Tryd.call46 (oneL_ok hb) ?_ ?_ (by simp [Tryd.ntmps46]) (by omega) ?_
  · simp [idsV, idsA, idsF, ids0, keys]
  · rintro v ns ⟨rfl, rfl⟩
    refine ⟨by simp [idsV, idsA, idsF, ids0, extD, keys, wayNs], by simp [wayNs, stB', fnB, jb, ids_lit, idsF, ids0, extD, keys], ?_⟩
    intro k b c h1 h2
    simp [wayNs] at h1 h2
    rcases h1 with ⟨e1, rfl⟩ | ⟨e1, rfl⟩ | ⟨e1, rfl⟩ | ⟨e1, rfl⟩ <;> rcases h2 with ⟨e2, rfl⟩ | ⟨e2, rfl⟩ | ⟨e2, rfl⟩ | ⟨e2, rfl⟩ <;> first | rfl | omega
  intro C hC hC0 hY
  repeat' (first | refine GW_seq ?_ | simp only [List.length_cons, List.length_nil, Nat.reduceAdd, Nat.reduceMul, wN] | ((first | refine GW_region' [] (by kernel_rfl) ?_ | refine GW_draw' [] follows (by kernel_rfl) (by kernel_rfl) ?_); intro Q hQ hP; simp [hC, hY]; (first | refine hQ _ _ _ _ ?_ | refine hQ _ _ _ _ (by kernel_rfl) ?_ | refine hP _ _ (fun _ => ?_) | refine hP _ _ (by kernel_rfl) (fun _ => ?_)); clear hQ hP Q) | refine GW_block ?_ | refine GW_ret ?_ | refine GW_skip ?_ | refine GW_exit ?_ | refine GW_goto ?_ | refine GW_label ?_ | simp only [blockG_exit] | (refine GW_cond (by simp; rfl) ?_ ?_ <;> (intro hb; first | (exfalso; exact absurd hb (by decide)) | skip)))
  refine ⟨.inr trivial, keep_of G0F (by simp) (by (intro k hk; first | rfl | (simp (disch := omega) only [addB, List.mem_cons, List.not_mem_nil, or_false, upd_other, hpL_cons, hpL_nil, if_neg, updL] <;> done))), _, _, fun k => if k = 1000 then 200 else if k = 1001 then 208 else if k = 1002 then 216 else if k = 1003 then 240 else k, ⟨rfl, rfl⟩, fun k hk => ?_, by simp [wayNs], by simp [wayNs], by simp [Tryd.results46, ren, renA, renF, ren0], ?_⟩
  · dsimp only
    rw [if_neg (by omega), if_neg (by omega), if_neg (by omega), if_neg (by omega)]
  · simp [wayNs, stB', fnB, jb, Blk.rn, renF, ren0]
/-! its iterator -/
def wyL (b : Blk) (st : Int) (off n cap : Nat) (p q : Int) : List (Nat × Blk) := [(100, stB' st 116 off n cap), (108, fnB 124 132), (116, b), (124, jb p), (132, jb q)]
theorem wyL_ok {b : Blk} (hb : b.fx) (st : Int) (off n cap : Nat) (p q : Int) : LOk (wyL b st off n cap p q) 200 := ⟨by simp [wyL], by simp [wyL, keys], by
  simp only [wyL, List.mem_cons, List.not_mem_nil, or_false, forall_eq_or_imp, forall_eq]
  exact ⟨by simp [stB', ids_lit, idsF, ids0, keys], by simp [fnB, ids_lit, idsF, ids0, keys], Blk.fx_ids hb _, by simp [jb, ids_lit, idsF, ids0], by simp [jb, ids_lit, idsF, ids0]⟩⟩
def wySt (b : Blk) (st : Int) (off n cap : Nat) (p q : Int) (l i : Nat) : GS :=
  ⟨tsL [(0, .func (.yield l) #[] #[]), (1, .pointer (some ⟨100, 0, none⟩)), (2, .pointer (some ⟨108, 0, none⟩)), (7, .slice (some ⟨116, off, none⟩) n cap), (8, .int .i64 n), (9, .int .i64 i)], hpL G0 (wyL b st off n cap p q), 300, i⟩
set_option maxRecDepth 8000 in
theorem ways_it (b : Blk) (off n cap : Nat) (f : Nat → Int) (h : SB b off n f) (st p q : Int) (hp : i64 p) (hq : i64 q) :
    IterK Tryd.prog G0 80 #[.pointer (some ⟨100, 0, none⟩), .pointer (some ⟨108, 0, none⟩)] (hpL G0 (wyL b st off n cap p q)) (keys (wyL b st off n cap p q)) (dwXs f p q n) := by
  refine iterk_ofL (B := 200) (v := .tuple #[]) G0F Tryd.func80 rfl Tryd.call80 (wyL_ok h.fx st off n cap p q) ?_ (by simp [Tryd.ntmps80]) (by omega) ?_
  · simp [idsV, idsA, idsF, ids0, wyL, keys]
  intro C l stop hC hC0 hY
  have hnn := h.nn
  have hid := fun D => Blk.fx_ids h.fx D
  unfold wyL stB' fnB
  repeat' (first | refine GW_seq ?_ | simp only [List.length_cons, List.length_nil, Nat.reduceAdd, Nat.reduceMul, wN] | ((first | refine GW_region' [] (by kernel_rfl) ?_ | refine GW_draw' [] follows (by kernel_rfl) (by kernel_rfl) ?_); intro Q hQ hP; simp [hC, hY]; (first | refine hQ _ _ _ _ ?_ | refine hQ _ _ _ _ (by kernel_rfl) ?_ | refine hP _ _ (fun _ => ?_) | refine hP _ _ (by kernel_rfl) (fun _ => ?_)); clear hQ hP Q) | refine GW_block ?_ | refine GW_ret ?_ | refine GW_skip ?_ | refine GW_exit ?_ | refine GW_goto ?_ | refine GW_label ?_ | simp only [blockG_exit] | (refine GW_cond (by simp; rfl) ?_ ?_ <;> (intro hb; first | (exfalso; exact absurd hb (by decide)) | skip)))
  refine GW_for (min stop n) (wySt b st off n cap p q l) ?_ ?_ ?_
  · refine weakL _ 300 hC G0F (m0 := wyL b st off n cap p q) hC0 (by omega) ?_ ?_ ?_
    · simp [idsV, idsA, idsF, ids0, dom, wyL]
    · simp [wyL, stB', fnB, ids_lit, idsF, ids0, jb, hid, dom]
    · simp [wyL, stB', fnB]
  · intro i hi
    have hin : i < n := by omega
    have hi' : (i : Int) < n := by omega
    have hz : (0 : Int) ≤ i := by omega
    have hs : Int.bmod ((i : Int) + 1) 18446744073709551616 = ((i + 1 : Nat) : Int) := by rw [bm (by omega) (by omega)]; rfl
    have hst : i < stop := by omega
    have hq2 : (i != stop) = true := by simp; omega
    have hle : i ≤ stop := by omega
    have hld := h.body hin
    have hx := dwXs_at f p q n i hin
    unfold wySt wyL stB' fnB
    repeat' (first | refine GW_seq ?_ | simp only [List.length_cons, List.length_nil, Nat.reduceAdd, Nat.reduceMul, wN] | ((first | refine GW_region' [79] (by kernel_rfl) ?_ | refine GW_draw' [79] follows (by kernel_rfl) (by kernel_rfl) ?_); intro Q hQ hP; simp [hC, hY, hin, hi', hz, hs, hst, hq2, hle, hld, hx, jb, dwA, dwV, dwE]; (repeat ((first | (refine heapK_mv (dw1_fun _ _ _ p q (h.i hin 3 (by omega)) (h.i hin 4 (by omega)) (h.i hin 5 (by omega)) hp hq) G0F (B := 200) ⟨by simp, by simp [keys], by simp [jb, ids_lit, idsF, ids0]⟩ (fun k => if k = 100 then 124 else if k = 108 then 132 else k) (fun k hk => (if_neg (by omega)).trans (if_neg (by omega))) (by simp [ren, renA, renF, ren0]) (by simp) (by simp [jb, Blk.rn, renF, ren0]) (by simp [keys]) (by simp [keys]; rfl) ?_)); try simp [hC, hY, hin, hi', hz, hs, hst, hq2, hle, hld, hx, jb, dwA, dwV, dwE])); (first | refine hQ _ _ _ _ ?_ | refine hQ _ _ _ _ (by kernel_rfl) ?_ | refine hP _ _ (fun _ => ?_) | refine hP _ _ (by kernel_rfl) (fun _ => ?_)); clear hQ hP Q) | refine GW_block ?_ | refine GW_ret ?_ | refine GW_skip ?_ | refine GW_exit ?_ | refine GW_goto ?_ | refine GW_label ?_ | simp only [blockG_exit] | (refine GW_cond (by simp; rfl) ?_ ?_ <;> (intro hb; first | (exfalso; exact absurd hb (by decide)) | skip)))
    refine weakL _ 300 hC G0F (m0 := wyL b st off n cap p q) hC0 (by omega) ?_ ?_ ?_
    · simp [idsV, idsA, idsF, ids0, dom, wyL, hs]
    · simp [wyL, stB', fnB, ids_lit, idsF, ids0, jb, hid, dom]
    · simp [wyL, stB', fnB, jb]
  · have hL := wyL_ok h.fx st off n cap p q
    have hlt : ∀ k, dom (hpL G0 (wyL b st off n cap p q)) k → k < 200 := fun k hk => Classical.byContradiction fun h1 => hk (hL.free G0F (by omega) k (by omega))
    by_cases h4 : n ≤ stop
    · rw [Nat.min_eq_right h4]
      have hlen := dwXs_len f p q n
      unfold wySt
      repeat' (first | refine GW_seq ?_ | simp only [List.length_cons, List.length_nil, Nat.reduceAdd, Nat.reduceMul, wN] | ((first | refine GW_region' [] (by kernel_rfl) ?_ | refine GW_draw' [] follows (by kernel_rfl) (by kernel_rfl) ?_); intro Q hQ hP; simp [hC, hY]; (first | refine hQ _ _ _ _ ?_ | refine hQ _ _ _ _ (by kernel_rfl) ?_ | refine hP _ _ (fun _ => ?_) | refine hP _ _ (by kernel_rfl) (fun _ => ?_)); clear hQ hP Q) | refine GW_block ?_ | refine GW_ret ?_ | refine GW_skip ?_ | refine GW_exit ?_ | refine GW_goto ?_ | refine GW_label ?_ | simp only [blockG_exit] | (refine GW_cond (by simp; rfl) ?_ ?_ <;> (intro hb; first | (exfalso; exact absurd hb (by decide)) | skip)))
      refine ⟨.inl trivial, by simp [Tryd.results80], by first | (rw [hlen]; omega) | omega, fun k hk => ?_⟩
      have hk := hlt k hk
      first | rfl | (simp (disch := omega) only [upd_other])
    · rw [Nat.min_eq_left (by omega)]
      have hin : stop < n := by omega
      have hi' : (stop : Int) < n := by omega
      have hz : (0 : Int) ≤ stop := by omega
      have hld := h.body hin
      have hx := dwXs_at f p q n stop hin
      have hlen := dwXs_len f p q n
      unfold wySt wyL stB' fnB
      repeat' (first | refine GW_seq ?_ | simp only [List.length_cons, List.length_nil, Nat.reduceAdd, Nat.reduceMul, wN] | ((first | refine GW_region' [79] (by kernel_rfl) ?_ | refine GW_draw' [79] follows (by kernel_rfl) (by kernel_rfl) ?_); intro Q hQ hP; simp [hC, hY, hin, hi', hz, hld, hx, jb, dwA, dwV, dwE]; (repeat ((first | (refine heapK_mv (dw1_fun _ _ _ p q (h.i hin 3 (by omega)) (h.i hin 4 (by omega)) (h.i hin 5 (by omega)) hp hq) G0F (B := 200) ⟨by simp, by simp [keys], by simp [jb, ids_lit, idsF, ids0]⟩ (fun k => if k = 100 then 124 else if k = 108 then 132 else k) (fun k hk => (if_neg (by omega)).trans (if_neg (by omega))) (by simp [ren, renA, renF, ren0]) (by simp) (by simp [jb, Blk.rn, renF, ren0]) (by simp [keys]) (by simp [keys]; rfl) ?_)); try simp [hC, hY, hin, hi', hz, hld, hx, jb, dwA, dwV, dwE])); (first | refine hQ _ _ _ _ ?_ | refine hQ _ _ _ _ (by kernel_rfl) ?_ | refine hP _ _ (fun _ => ?_) | refine hP _ _ (by kernel_rfl) (fun _ => ?_)); clear hQ hP Q) | refine GW_block ?_ | refine GW_ret ?_ | refine GW_skip ?_ | refine GW_exit ?_ | refine GW_goto ?_ | refine GW_label ?_ | simp only [blockG_exit] | (refine GW_cond (by simp; rfl) ?_ ?_ <;> (intro hb; first | (exfalso; exact absurd hb (by decide)) | skip)))
      refine ⟨.inr trivial, by simp [Tryd.results80], by first | omega | (simp; omega), fun k hk => ?_⟩
      have hk := hlt k hk
      simp (disch := omega) only [upd_other]
      rfl
end Go.Gy
namespace Go.Gy
set_option linter.unusedSimpArgs false
set_option linter.unusedVariables false
open Go Go.RowKit Go.Proofs
/-- The drifts, one behind the other. -/
def vecsG (f : Nat → Int) (p q : Int) (j : Nat) : Int := dwV f p q (j / 3) (j % 3)
/-- A new row of n points. -/
def VecR (nk n : Nat) (G : Nat → Int) (v : Value) (ns : List (Nat × Blk)) : Prop := (n = 0 ∧ v = .slice none 0 0 ∧ ns = []) ∨ ∃ (c : Nat) (g : Nat → Int), 0 < n ∧ n ≤ c ∧ (∀ j, j < 3 * n → g j = G j) ∧ v = .slice (some ⟨nk, 0, none⟩) n c ∧ ns = [(nk, ⟨fa (3 * c) .i64 g, .ty 26⟩)]
theorem vec_fit {D : Nat → Prop} {nk n B : Nat} {G : Nat → Int} (hB : B ≤ nk) (v : Value) (ns : List (Nat × Blk)) (h : VecR nk n G v ns) : idsV (extD D ns) v ∧ (∀ p ∈ ns, B ≤ p.1 ∧ p.2.ids (extD D ns)) ∧ (∀ k b c, (k, b) ∈ ns → (k, c) ∈ ns → b = c) := by
  rcases h with ⟨_, rfl, rfl⟩ | ⟨c, g, h1, h2, h3, rfl, rfl⟩
  · simp [idsV, idsA, idsF, ids0]
  · refine ⟨by simp [idsV, idsA, idsF, ids0, extD, keys], ?_, ?_⟩
    · simp only [List.mem_singleton, forall_eq]
      exact ⟨by omega, Blk.fx_ids (fa_fx _ _ _) _⟩
    · intro k b c h1 h2
      simp at h1 h2
      rw [h1.2, h2.2]
def sqI (G : Nat → Int) (i : Nat) (h : Hp) : Prop := ∃ sl ns, VecR 208 i G sl ns ∧ h = hpL G0 ((200, ⟨#[sl], .ty 35⟩) :: ns)
def sqTs : List (Nat × Value) := [(2, .pointer (some ⟨200, 0, none⟩)), (4, .slice none 0 0)]
set_option maxRecDepth 8000 in
theorem seq_fun (b : Blk) (off n cap : Nat) (f : Nat → Int) (h : SB b off n f) (st p q : Int) (hp : i64 p) (hq : i64 q) :
    FunS Tryd.prog G0 78 #[.slice none 0 0, .func (.func 80) #[] #[.pointer (some ⟨100, 0, none⟩), .pointer (some ⟨108, 0, none⟩)]] (hpL G0 (wyL b st off n cap p q)) (keys (wyL b st off n cap p q)) (VecR 1000 n (vecsG f p q)) := by
  have hL := wyL_ok h.fx st off n cap p q
  refine newS_ofL (B := 200) G0F Tryd.func78 rfl Tryd.call78 hL ?_ (vec_fit (by omega)) (by simp [Tryd.ntmps78]) (by omega) ?_
  · simp [idsV, idsA, idsF, ids0, keys, wyL]
  intro C hC hC0 hY
  have hnn := h.nn
  have hid := fun D => Blk.fx_ids h.fx D
  have hasd : ∀ C0 : Ctx, (C0.hp0 = fun k => if k ∈ keys (wyL b st off n cap p q) then none else C.hp0 k) → C0.hp0 = hpL G0 [] := fun C0 h0 => by rw [h0, hC0]; exact hL.aside G0F
  repeat' (first | refine GW_seq ?_ | simp only [List.length_cons, List.length_nil, Nat.reduceAdd, Nat.reduceMul, wN] | ((first | refine GW_region' [] (by kernel_rfl) ?_ | refine GW_draw' [] follows (by kernel_rfl) (by kernel_rfl) ?_); intro Q hQ hP; simp [hC, hY]; (first | refine hQ _ _ _ _ ?_ | refine hQ _ _ _ _ (by kernel_rfl) ?_ | refine hP _ _ (fun _ => ?_) | refine hP _ _ (by kernel_rfl) (fun _ => ?_)); clear hQ hP Q) | refine GW_block ?_ | refine GW_ret ?_ | refine GW_skip ?_ | refine GW_exit ?_ | refine GW_goto ?_ | refine GW_label ?_ | simp only [blockG_exit] | (refine GW_cond (by simp; rfl) ?_ ?_ <;> (intro hb; first | (exfalso; exact absurd hb (by decide)) | skip)))
  refine GW_rangeK (f := 80) (rs := keys (wyL b st off n cap p q)) (xs := dwXs f p q n) (caps := #[.pointer (some ⟨100, 0, none⟩), .pointer (some ⟨108, 0, none⟩)]) (keys (wyL b st off n cap p q)) hY (by simp) ?_ ?_ (by simp [Tryd.ntmps78]) (tsL sqTs) (tsL sqTs) (sqI (vecsG f p q)) (hpS := hpL G0 [(200, ⟨#[.slice none 0 0], .ty 35⟩)]) 300 n (by rw [dwXs_len]; exact Nat.le_refl _) (fun _ hk => hk) ?_ ?_ ?_ ?_ ?_ (fun _ => .inl rfl) ?_ ?_
  · rw [hC]
    exact iterk_mv (ways_it b off n cap f h st p q hp hq) G0F hL (fun k => k) (fun _ _ => rfl) (by simp [ren0]) (by simp) (fun k hk => by dsimp only; rw [upd_other _ _ (by omega)]; exact hL.low k hk) (by simp [wyL, Blk.rn_id]) (by simp)
  · intro x hx
    simp [dwXs] at hx
    obtain ⟨i, _, rfl⟩ := hx
    simp [dwA]
  · intro k hk
    simp [wyL, keys] at hk
    rcases hk with rfl | rfl | rfl | rfl | rfl <;> simp [dom, wyL]
  · exact hL.clz (by simp [wyL])
  · intro C0 h1 h2
    refine weakL _ 300 (h1.trans hC) G0F (m0 := []) (hasd C0 h2) (by omega) ?_ ?_ ?_
    · simp [sqTs, idsV, idsA, idsF, ids0, dom]
    · simp [ids_lit, idsF, ids0]
    · simp
  · exact ⟨_, _, .inl ⟨rfl, rfl, rfl⟩, rfl⟩
  · intro k hk
    simp [wyL, keys] at hk
    rcases hk with rfl | rfl | rfl | rfl | rfl <;> simp
  · intro i x hq0 hi hx hI C1 l hC1 hh1 hY1
    obtain ⟨sl, ns, hV, rfl⟩ := hI
    rw [dwXs_at _ _ _ _ _ hi] at hx
    simp only [Option.some.injEq] at hx
    subst hx
    have hCC := hC
    have hC1' : C1.G = G0 := hC1.trans hC
    rcases hV with ⟨rfl, rfl, rfl⟩ | ⟨c, g, hi0, hic, hg, rfl, rfl⟩
    · clear hC hY
      have hC := hC1'
      have hY := hY1
      unfold dwA
      repeat' (first | refine GW_seq ?_ | simp only [List.length_cons, List.length_nil, Nat.reduceAdd, Nat.reduceMul, wN] | ((first | refine GW_region' [] (by kernel_rfl) ?_ | refine GW_draw' [] follows (by kernel_rfl) (by kernel_rfl) ?_); intro Q hQ hP; simp [hC, hY, roundTs, sqTs]; (first | refine hQ _ _ _ _ ?_ | refine hQ _ _ _ _ (by kernel_rfl) ?_ | refine hP _ _ (fun _ => ?_) | refine hP _ _ (by kernel_rfl) (fun _ => ?_)); clear hQ hP Q) | refine GW_block ?_ | refine GW_ret ?_ | refine GW_skip ?_ | refine GW_exit ?_ | refine GW_goto ?_ | refine GW_label ?_ | simp only [blockG_exit] | (refine GW_cond (by simp; rfl) ?_ ?_ <;> (intro hb; first | (exfalso; exact absurd hb (by decide)) | skip)))
      intro C2 hC2 hh2 hY2
      clear hC hY
      have hC : C2.G = G0 := hC2.trans hCC
      have hY := hY2
      refine GW_block ?_
      refine GW_list ?_
      simp only [Array.toList]
      refine GL_walk 3 [] rfl (by simp) (by kernel_rfl) ?_; intro q hq; simp [hC, hY]; refine hq _ _ _ _ ?_; clear hq q
      simp only [wT, List.length_cons, List.length_nil, Nat.reduceAdd]
      refine GL_push (m := 3) (i := 0) (j := 332) (by' := 24) (z := .agg #[.int .i64 0, .int .i64 0, .int .i64 0]) (T2 := .ty 26) (G := vecsG f p q) (ev := fun u => dwV f p q 0 u) rfl (by simp) rfl Tryd.underlying35 (tySize_of Tryd.sizeOf26) (by kernel_rfl) (by kernel_rfl) (by omega) (by simp [Value.cells]) (by simp [Value.cells]) (by omega) (by omega) (.inl ⟨rfl, by simp⟩) (by simp) (by simp [fa_3]) (fun u hu => ?_) (by omega) ?_
      · unfold vecsG
        rw [show (3 * 0 + u) / 3 = 0 by omega, show (3 * 0 + u) % 3 = u by omega]
      · rintro k' c' g' hk' hk100 hc' hg'
        obtain rfl : k' = 340 := by
          rcases hk' with hk' | ⟨c, hk'⟩
          · exact hk'
          · simp at hk'
        refine GL_walk 1 [] rfl (by simp) (by kernel_rfl) ?_; intro q hq; simp [hC, hY, putT]; refine hq _ _ _ _ ?_; clear hq q
        simp only [wT, List.length_cons, List.length_nil, Nat.reduceAdd]
        refine GL_nil ?_
        simp only [blockG_normal, thenG_normal]
        refine ⟨fun k => if k = 208 then 340 else k, _, fun C0 h1 h2 => weakRL _ _ 300 (h1.trans hCC) G0F (m0 := []) (hasd C0 h2) (by omega) ?_ ?_ ?_ ?_ ?_, ⟨_, _, .inr ⟨c', g', by omega, hc', hg', rfl, rfl⟩, rfl⟩⟩
        · simp [sqTs, dom, junk, ren, renA, renF, ren0, idsV, idsA, idsF, ids0]
        · have hfi := fun D => Blk.fx_ids (fa_fx (3 * c') g' 26) D
          have hfm := fun ρ => fx_map (fa_fx (3 * c') g' 26) ρ
          simp [hfm, Blk.rn, renF, ren0, ids_lit, idsF, ids0, dom, hfi]
        · simp
        · intro k hk; simp; omega
        · simp
    · clear hC hY
      have hC := hC1'
      have hY := hY1
      have hfi := fun D => Blk.fx_ids (fa_fx (3 * c) g 26) D
      unfold dwA
      repeat' (first | refine GW_seq ?_ | simp only [List.length_cons, List.length_nil, Nat.reduceAdd, Nat.reduceMul, wN] | ((first | refine GW_region' [] (by kernel_rfl) ?_ | refine GW_draw' [] follows (by kernel_rfl) (by kernel_rfl) ?_); intro Q hQ hP; simp [hC, hY, roundTs, sqTs]; (first | refine hQ _ _ _ _ ?_ | refine hQ _ _ _ _ (by kernel_rfl) ?_ | refine hP _ _ (fun _ => ?_) | refine hP _ _ (by kernel_rfl) (fun _ => ?_)); clear hQ hP Q) | refine GW_block ?_ | refine GW_ret ?_ | refine GW_skip ?_ | refine GW_exit ?_ | refine GW_goto ?_ | refine GW_label ?_ | simp only [blockG_exit] | (refine GW_cond (by simp; rfl) ?_ ?_ <;> (intro hb; first | (exfalso; exact absurd hb (by decide)) | skip)))
      intro C2 hC2 hh2 hY2
      clear hC hY
      have hC : C2.G = G0 := hC2.trans hCC
      have hY := hY2
      refine GW_block ?_
      refine GW_list ?_
      simp only [Array.toList]
      refine GL_walk 3 [] rfl (by simp) (by kernel_rfl) ?_; intro q hq; simp [hC, hY]; refine hq _ _ _ _ ?_; clear hq q
      simp only [wT, List.length_cons, List.length_nil, Nat.reduceAdd]
      refine GL_push (m := 3) (i := i) (j := 332) (by' := 24) (z := .agg #[.int .i64 0, .int .i64 0, .int .i64 0]) (T2 := .ty 26) (G := vecsG f p q) (ev := fun u => dwV f p q i u) rfl (by simp) rfl Tryd.underlying35 (tySize_of Tryd.sizeOf26) (by kernel_rfl) (by kernel_rfl) (by omega) (by simp [Value.cells]) (by simp [Value.cells]) (by omega) (by omega) (.inr ⟨208, c, g, by omega, by simp, by simp, hic, hg⟩) (by simp) (by simp [fa_3]) (fun u hu => ?_) (by omega) ?_
      · unfold vecsG
        rw [show (3 * i + u) / 3 = i by omega, show (3 * i + u) % 3 = u by omega]
      · rintro k' c' g' hk' hk100 hc' hg'
        have hk' : k' = 340 ∨ k' = 208 := by
          rcases hk' with hk' | ⟨c, hk'⟩
          · exact .inl hk'
          · simp at hk'; exact .inr hk'.1.symm
        rcases hk' with rfl | rfl
        ·
          refine GL_walk 1 [] rfl (by simp) (by kernel_rfl) ?_; intro q hq; simp [hC, hY, putT]; refine hq _ _ _ _ ?_; clear hq q
          simp only [wT, List.length_cons, List.length_nil, Nat.reduceAdd]
          refine GL_nil ?_
          simp only [blockG_normal, thenG_normal]
          refine ⟨fun k => if k = 208 then 340 else k, _, fun C0 h1 h2 => weakRL _ _ 300 (h1.trans hCC) G0F (m0 := []) (hasd C0 h2) (by omega) ?_ ?_ ?_ ?_ ?_, ⟨_, _, .inr ⟨c', g', by omega, hc', hg', rfl, rfl⟩, rfl⟩⟩
          · simp [sqTs, dom, junk, ren, renA, renF, ren0, idsV, idsA, idsF, ids0]
          · have hfi := fun D => Blk.fx_ids (fa_fx (3 * c') g' 26) D
            have hfm := fun ρ => fx_map (fa_fx (3 * c') g' 26) ρ
            simp [hfm, Blk.rn, renF, ren0, ids_lit, idsF, ids0, dom, hfi]
          · simp
          · intro k hk; simp; omega
          · simp
        ·
          refine GL_walk 1 [] rfl (by simp) (by kernel_rfl) ?_; intro q hq; simp [hC, hY, putT]; refine hq _ _ _ _ ?_; clear hq q
          simp only [wT, List.length_cons, List.length_nil, Nat.reduceAdd]
          refine GL_nil ?_
          simp only [blockG_normal, thenG_normal]
          refine ⟨fun k => if k = 208 then 208 else k, _, fun C0 h1 h2 => weakRL _ _ 300 (h1.trans hCC) G0F (m0 := []) (hasd C0 h2) (by omega) ?_ ?_ ?_ ?_ ?_, ⟨_, _, .inr ⟨c', g', by omega, hc', hg', rfl, rfl⟩, rfl⟩⟩
          · simp [sqTs, dom, junk, ren, renA, renF, ren0, idsV, idsA, idsF, ids0]
          · have hfi := fun D => Blk.fx_ids (fa_fx (3 * c') g' 26) D
            have hfm := fun ρ => fx_map (fa_fx (3 * c') g' 26) ρ
            simp [hfm, Blk.rn, renF, ren0, ids_lit, idsF, ids0, dom, hfi]
          · simp
          · intro k hk; simp; omega
          · simp
  · left
    refine ⟨(dwXs_len _ _ _ _).symm, ?_⟩
    rintro hq0 ⟨sl, ns, hV, rfl⟩
    refine ⟨?_, ?_⟩
    · intro k hk
      simp [wyL, keys] at hk
      rcases hV with ⟨rfl, rfl, rfl⟩ | ⟨c, g, hi0, hic, hg, rfl, rfl⟩
      · rcases hk with rfl | rfl | rfl | rfl | rfl <;> simp
      · rcases hk with rfl | rfl | rfl | rfl | rfl <;> simp
    have hkeep : ∀ (h2 : Hp), (∀ k, k ∉ keys (wyL b st off n cap p q) → k < 100 → h2 k = hpL G0 (wyL b st off n cap p q) k) → ∀ k, dom (hpL G0 (wyL b st off n cap p q)) k → addB (keys (wyL b st off n cap p q)) (upd (hpL G0 (wyL b st off n cap p q)) 200 (some ⟨#[.slice none 0 0], .ty 35⟩)) h2 k = hpL G0 (wyL b st off n cap p q) k := fun h2 hh k hk => by
      unfold addB
      by_cases h1 : k ∈ keys (wyL b st off n cap p q)
      · rw [if_pos h1, upd_other _ _ ?_]
        obtain ⟨pp, hpp, rfl⟩ := mem_keys.1 h1
        have := (hL.big pp hpp).2
        omega
      · rw [if_neg h1]
        refine hh k h1 (Classical.byContradiction fun h3 => h1 ?_)
        unfold dom at hk
        cases hb : hpL G0 (wyL b st off n cap p q) k with
        | none => exact absurd hb hk
        | some b' =>
          rcases hpL_mem hb with h4 | h4
          · exact mem_keys.2 ⟨_, h4, rfl⟩
          · exact absurd (G0F k b' h4).1 h3
    rcases hV with ⟨rfl, rfl, rfl⟩ | ⟨c, g, hi0, hic, hg, rfl, rfl⟩
    · have h200 : ¬ 200 ∈ keys (wyL b st off 0 cap p q) := by simp [wyL, keys]
      unfold sqTs
      repeat' (first | refine GW_seq ?_ | simp only [List.length_cons, List.length_nil, Nat.reduceAdd, Nat.reduceMul, wN] | ((first | refine GW_region' [] (by kernel_rfl) ?_ | refine GW_draw' [] follows (by kernel_rfl) (by kernel_rfl) ?_); intro Q hQ hP; simp [hC, hY, addB, h200]; (first | refine hQ _ _ _ _ ?_ | refine hQ _ _ _ _ (by kernel_rfl) ?_ | refine hP _ _ (fun _ => ?_) | refine hP _ _ (by kernel_rfl) (fun _ => ?_)); clear hQ hP Q) | refine GW_block ?_ | refine GW_ret ?_ | refine GW_skip ?_ | refine GW_exit ?_ | refine GW_goto ?_ | refine GW_label ?_ | simp only [blockG_exit] | (refine GW_cond (by simp; rfl) ?_ ?_ <;> (intro hb; first | (exfalso; exact absurd hb (by decide)) | skip)))
      refine ⟨.inr trivial, hkeep _ (fun k h1 h2 => ?_), _, _, fun k => k, .inl ⟨rfl, rfl, rfl⟩, fun _ _ => rfl, by simp, by simp, by simp [Tryd.results78, ren, renA, renF, ren0], by simp⟩
      rw [hL.low k h2]
      simp (disch := omega) only [hpL_cons, hpL_nil, if_neg]
    · have h200 : ¬ 200 ∈ keys (wyL b st off n cap p q) := by simp [wyL, keys]
      have h208 : ¬ 208 ∈ keys (wyL b st off n cap p q) := by simp [wyL, keys]
      unfold sqTs
      repeat' (first | refine GW_seq ?_ | simp only [List.length_cons, List.length_nil, Nat.reduceAdd, Nat.reduceMul, wN] | ((first | refine GW_region' [] (by kernel_rfl) ?_ | refine GW_draw' [] follows (by kernel_rfl) (by kernel_rfl) ?_); intro Q hQ hP; simp [hC, hY, addB, h200]; (first | refine hQ _ _ _ _ ?_ | refine hQ _ _ _ _ (by kernel_rfl) ?_ | refine hP _ _ (fun _ => ?_) | refine hP _ _ (by kernel_rfl) (fun _ => ?_)); clear hQ hP Q) | refine GW_block ?_ | refine GW_ret ?_ | refine GW_skip ?_ | refine GW_exit ?_ | refine GW_goto ?_ | refine GW_label ?_ | simp only [blockG_exit] | (refine GW_cond (by simp; rfl) ?_ ?_ <;> (intro hb; first | (exfalso; exact absurd hb (by decide)) | skip)))
      refine ⟨.inr trivial, hkeep _ (fun k h1 h2 => ?_), _, _, fun k => if k = 1000 then 208 else k, .inr ⟨c, g, hi0, hic, hg, rfl, rfl⟩, fun k hk => if_neg (by omega), by simp, by simp, by simp [Tryd.results78, ren, renA, renF, ren0], ?_⟩
      · rw [hL.low k h2]
        simp (disch := omega) only [hpL_cons, hpL_nil, if_neg]
      · simp [addB, h208, fa_rn]
end Go.Gy
