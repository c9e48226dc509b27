/-
  Lemmas of this claim, in their order (GyU5, GyU6, GyU7, GyU8).
  Conditions: those of each theorem.
-/
import Derived.Test.YtggidgaeggekhaaDoorGz06
namespace Go.Gy
set_option linter.unusedSimpArgs false
set_option linter.unusedVariables false
open Go Go.RowKit Go.Proofs
theorem slice_Rn {c : Array Value} {T : TypeId} (hc : ∀ x ∈ c, flatF x = true) (b : Nat) (hb : 100 ≤ b) : Rn (fun k => if k = 100 then b else k) (hpL G1 [(100, ⟨c, T⟩)]) (hpL G1 [(b, ⟨c, T⟩)]) [100] := by
  refine ⟨fun k hk => ?_, ?_, ?_, ?_⟩
  · have h1 : ¬ k = 100 := by omega
    have h2 : ¬ k = b := by omega
    simp [h1, h2]
  · simp [hb]
  · simp [Blk.rn]
    exact (map_eq_self (fun x hx => flatF_ren (hc x hx))).symm
  · simp
theorem Fun.sl {f : FuncId} {c : Array Value} {T : TypeId} {n : Nat} {v : Value} (h : Fun Tryd.prog G1 f #[.slice (some ⟨100, 0, none⟩) n n] (hpL G1 [(100, ⟨c, T⟩)]) [100] (.ret v [])) (hc : ∀ x ∈ c, flatF x = true) (hv : flatV v = true) (b : Nat) (hb : 100 ≤ b) :
    Fun Tryd.prog G1 f #[.slice (some ⟨b, 0, none⟩) n n] (hpL G1 [(b, ⟨c, T⟩)]) [b] (.ret v []) := by
  have h' := h.rn (fun k => if k = 100 then b else k) G1F (fun k hk => hpL_low (by simp) hk) (slice_Rn hc b hb)
  rw [flatV_ren hv] at h'
  simpa [ren, renA, renF, ren0, rnL] using h'
theorem Fun.slp {f : FuncId} {c : Array Value} {T : TypeId} {n : Nat} {v : Value} (h : Fun Tryd.prog G1 f #[.slice (some ⟨100, 0, none⟩) n n] (hpL G1 [(100, ⟨c, T⟩)]) [100] (.pan v)) (hc : ∀ x ∈ c, flatF x = true) (b : Nat) (hb : 100 ≤ b) :
    Fun Tryd.prog G1 f #[.slice (some ⟨b, 0, none⟩) n n] (hpL G1 [(b, ⟨c, T⟩)]) [b] (.pan v) := by
  have h' := h.rnp (fun k => if k = 100 then b else k) G1F (fun k hk => hpL_low (by simp) hk) (slice_Rn hc b hb)
  simpa [ren, renA, renF, ren0, rnL] using h'
theorem heapK_sl {f : FuncId} {c : Array Value} {T : TypeId} {n nk b : Nat} {v : Value} {hp : Hp} {K : Eff → Prop} (h : Fun Tryd.prog G1 f #[.slice (some ⟨100, 0, none⟩) n n] (hpL G1 [(100, ⟨c, T⟩)]) [100] (.ret v [])) (hc : ∀ x ∈ c, flatF x = true) (hv : flatV v = true) (hb : 100 ≤ b)
    (h1 : hp b = some ⟨c, T⟩) (hK : K ((Res.ret v []).eff [b])) : heapK Tryd.prog G1 f #[.slice (some ⟨b, 0, none⟩) n n] hp nk K :=
  heapK_of (hp' := hpL G1 [(b, ⟨c, T⟩)]) (h.sl hc hv b hb) (by simp [h1]) (fun k hk => hpL_low (by simp; omega) hk) trivial hK
theorem heapK_slp {f : FuncId} {c : Array Value} {T : TypeId} {n nk b : Nat} {v : Value} {hp : Hp} {K : Eff → Prop} (h : Fun Tryd.prog G1 f #[.slice (some ⟨100, 0, none⟩) n n] (hpL G1 [(100, ⟨c, T⟩)]) [100] (.pan v)) (hc : ∀ x ∈ c, flatF x = true) (hb : 100 ≤ b)
    (h1 : hp b = some ⟨c, T⟩) (hK : K ((Res.pan v).eff [b])) : heapK Tryd.prog G1 f #[.slice (some ⟨b, 0, none⟩) n n] hp nk K :=
  heapK_of (hp' := hpL G1 [(b, ⟨c, T⟩)]) (h.slp hc b hb) (by simp [h1]) (fun k hk => hpL_low (by simp; omega) hk) trivial hK
/-! how large -/
theorem absmul {a b p q : Int} (h1 : -p ≤ a) (h2 : a ≤ p) (h3 : -q ≤ b) (h4 : b ≤ q) : -(p * q) ≤ a * b ∧ a * b ≤ p * q := by
  have e1 : a.natAbs ≤ p.natAbs := by omega
  have e2 : b.natAbs ≤ q.natAbs := by omega
  have e3 := Nat.mul_le_mul e1 e2
  rw [← Int.natAbs_mul, ← Int.natAbs_mul] at e3
  have e4 : 0 ≤ p * q := Int.mul_nonneg (by omega) (by omega)
  omega
theorem sq_nonneg (a : Int) : 0 ≤ a * a := by
  by_cases h : 0 ≤ a
  · exact Int.mul_nonneg h h
  · rw [← Int.neg_mul_neg]; exact Int.mul_nonneg (by omega) (by omega)
/-- How strong a pull is. -/
def pmag (n d g m x r : Int) : Int := (isq (2 * n * g * m * x * (2 * n * g * m * x) / (d * d * r * r * r)) + 1) / 2
def pullV (n d g m x r : Int) : Int := if n < 0 then (if x < 0 then pmag n d g m x r else -pmag n d g m x r) else (if x < 0 then -pmag n d g m x r else pmag n d g m x r)
structure PIn (n d g m x r : Int) : Prop where
  n0 : -2097152 ≤ n
  n1 : n ≤ 2097152
  d0 : 1 ≤ d
  d1 : d ≤ 2097152
  g0 : 1 ≤ g
  g1 : g ≤ 1048576
  m0 : 1 ≤ m
  m1 : m ≤ 1024
  x0 : -2097152 ≤ x
  x1 : x ≤ 2097152
  r0 : 1 ≤ r
  r1 : r ≤ 13194139533312
  xr : x * x ≤ r
theorem chk_in {n d g m x r : Int} : chkE n d g m x r = 0 ↔ PIn n d g m x r := by
  unfold chkE
  constructor
  · intro h
    split at h
    rotate_left
    · cases h
    rename_i hc
    obtain ⟨f0, f1, f2, f3, f4, f5, f6, f7, f8, f9, f10, f11⟩ := hc
    split at h
    · cases h
    rename_i hr
    split at h
    rotate_left
    · cases h
    rename_i hx
    exact ⟨f0, f1, f2, f3, f4, f5, f6, f7, f8, f9, by omega, f11, hx⟩
  · rintro ⟨f0, f1, f2, f3, f4, f5, f6, f7, f8, f9, f10, f11, f12⟩
    rw [if_pos ⟨f0, f1, f2, f3, f4, f5, f6, f7, f8, f9, by omega, f11⟩, if_neg (by omega), if_pos f12]
section
variable {n d g m x r : Int} (h : PIn n d g m x r)
include h
theorem PIn.p1 : -4194304 ≤ 2 * n ∧ 2 * n ≤ 4194304 := ⟨by have := h.n0; omega, by have := h.n1; omega⟩
theorem PIn.p2 : -4398046511104 ≤ 2 * n * g ∧ 2 * n * g ≤ 4398046511104 := by
  have := absmul h.p1.1 h.p1.2 (b := g) (q := 1048576) (by have := h.g0; omega) h.g1
  simpa using this
theorem PIn.p3 : -4503599627370496 ≤ 2 * n * g * m ∧ 2 * n * g * m ≤ 4503599627370496 := by
  have := absmul h.p2.1 h.p2.2 (b := m) (q := 1024) (by have := h.m0; omega) h.m1
  simpa using this
theorem PIn.p4 : -9444732965739290427392 ≤ 2 * n * g * m * x ∧ 2 * n * g * m * x ≤ 9444732965739290427392 := by
  have := absmul h.p3.1 h.p3.2 h.x0 h.x1
  simpa using this
theorem PIn.q1 : 1 ≤ d * d ∧ d * d ≤ 4398046511104 := by
  have h1 := absmul (p := 2097152) (q := 2097152) (by have := h.d0; omega) h.d1 (by have := h.d0; omega) h.d1
  have h2 : 1 * 1 ≤ d * d := Int.mul_le_mul h.d0 h.d0 (by omega) (by have := h.d0; omega)
  omega
theorem PIn.q2 : r ≤ d * d * r ∧ d * d * r ≤ 4398046511104 * 13194139533312 := by
  refine ⟨?_, Int.mul_le_mul h.q1.2 h.r1 (by have := h.r0; omega) (by omega)⟩
  have h2 : 1 * r ≤ d * d * r := Int.mul_le_mul_of_nonneg_right h.q1.1 (by have := h.r0; omega)
  omega
theorem PIn.q3 : r ≤ d * d * r * r ∧ d * d * r * r ≤ 4398046511104 * 13194139533312 * 13194139533312 := by
  have hr := h.r0
  have h1 := h.q2
  refine ⟨?_, Int.mul_le_mul h1.2 h.r1 (by omega) (by omega)⟩
  have h2 : 1 * r ≤ d * d * r * r := Int.mul_le_mul_of_nonneg_right (by omega) (by omega)
  omega
theorem PIn.q4 : r ≤ d * d * r * r * r ∧ d * d * r * r * r ≤ 4398046511104 * 13194139533312 * 13194139533312 * 13194139533312 := by
  have hr := h.r0
  have h1 := h.q3
  refine ⟨?_, Int.mul_le_mul h1.2 h.r1 (by omega) (by omega)⟩
  have h2 : 1 * r ≤ d * d * r * r * r := Int.mul_le_mul_of_nonneg_right (by omega) (by omega)
  omega
theorem PIn.a_le : 2 * n * g * m * x * (2 * n * g * m * x) ≤ 89202980794122492566142873090593446023921664 := by
  have := (absmul h.p4.1 h.p4.2 h.p4.1 h.p4.2).2
  simpa using this
theorem PIn.div_le : 2 * n * g * m * x * (2 * n * g * m * x) / (d * d * r * r * r) ≤ 20282409603651670423947251286016 := by
  have hr := h.r0
  have hB := h.q4.1
  have h1 : (2 * n * g * m) * (2 * n * g * m) ≤ 20282409603651670423947251286016 := by
    have := (absmul h.p3.1 h.p3.2 h.p3.1 h.p3.2).2
    simpa using this
  have e : 2 * n * g * m * x * (2 * n * g * m * x) = (2 * n * g * m) * (2 * n * g * m) * (x * x) := by
    rw [Int.mul_assoc (2 * n * g * m) x, Int.mul_left_comm x, ← Int.mul_assoc]
  have h2 : (2 * n * g * m) * (2 * n * g * m) * (x * x) ≤ 20282409603651670423947251286016 * r := Int.mul_le_mul h1 h.xr (sq_nonneg x) (by omega)
  have h3 : 20282409603651670423947251286016 * r ≤ 20282409603651670423947251286016 * (d * d * r * r * r) := Int.mul_le_mul_of_nonneg_left hB (by omega)
  rw [e]
  refine Int.le_of_lt_add_one (Int.ediv_lt_of_lt_mul (by omega) ?_)
  rw [Int.add_mul]
  omega
theorem PIn.mag : 0 ≤ pmag n d g m x r ∧ pmag n d g m x r ≤ 4503599627370496 := by
  have hB : 0 < d * d * r * r * r := by have := h.q4.1; have := h.r0; omega
  have hA := sq_nonneg (2 * n * g * m * x)
  obtain ⟨h1, h2, h3⟩ := isq_spec (2 * n * g * m * x * (2 * n * g * m * x) / (d * d * r * r * r)) (Int.ediv_nonneg hA (by omega))
  have h4 := h.div_le
  have h5 := sq_bd 4503599627370497 h1 (by decide) (by omega)
  unfold pmag
  omega
end
end Go.Gy
namespace Go.Gy
set_option linter.unusedSimpArgs false
set_option linter.unusedVariables false
open Go Go.RowKit Go.Proofs
set_option maxHeartbeats 1000000 in
theorem one_ok (n d g m x r : Int) (h : PIn n d g m x r) : RetP Tryd.prog G1 71 #[.int .i64 n, .int .i64 d, .int .i64 g, .int .i64 m, .int .i64 x, .int .i64 r] (.ret (.int .i64 (pullV n d g m x r))) := by
  refine retp_of G1F Tryd.func71 rfl Tryd.call71 (fun v h => by cases h; simp) (by simp) (by simp [Tryd.ntmps71]) ?_
  intro C hC hC0 hY
  have hck := check_ok n d g m x r (chk_in.2 h)
  have p1 := h.p1
  have p2 := h.p2
  have p3 := h.p3
  have p4 := h.p4
  have q1 := h.q1
  have q2 := h.q2
  have q3 := h.q3
  have q4 := h.q4
  have r0 := h.r0
  have t1 := times5_fun 2 n g m x ⟨by decide, ⟨by have := h.n0; omega, by have := h.n1; omega⟩, ⟨by have := h.g0; omega, by have := h.g1; omega⟩, ⟨by have := h.m0; omega, by have := h.m1; omega⟩, ⟨by have := h.x0; omega, by have := h.x1; omega⟩⟩
    ⟨⟨by decide, by decide⟩, ⟨by omega, by omega⟩, ⟨by omega, by omega⟩, ⟨by omega, by omega⟩, ⟨by omega, by omega⟩⟩
  have t2 := times5_fun d d r r r ⟨⟨by have := h.d0; omega, by have := h.d1; omega⟩, ⟨by have := h.d0; omega, by have := h.d1; omega⟩, ⟨by omega, by have := h.r1; omega⟩, ⟨by omega, by have := h.r1; omega⟩, ⟨by omega, by have := h.r1; omega⟩⟩
    ⟨⟨by have := h.d0; omega, by have := h.d1; omega⟩, ⟨by omega, by omega⟩, ⟨by omega, by omega⟩, ⟨by omega, by omega⟩, ⟨by omega, by omega⟩⟩
  have wA : wr (2 * n * g * m * x) := ⟨by omega, by omega⟩
  have sA := wr_sz wA
  have hAle := h.a_le
  have hA0 := sq_nonneg (2 * n * g * m * x)
  have wA2 : wr (2 * n * g * m * x * (2 * n * g * m * x)) := ⟨by omega, by omega⟩
  have wB : wr (d * d * r * r * r) := ⟨by omega, by omega⟩
  have hB0 : 0 < d * d * r * r * r := by omega
  have hm := h.mag
  have hmw : wr (pmag n d g m x r) := ⟨by omega, by omega⟩
  have sM := wr_sz hmw
  have iM : i64 (pmag n d g m x r) := ⟨by omega, by omega⟩
  have hmb : Int.bmod (-pmag n d g m x r) 18446744073709551616 = -pmag n d g m x r := bm (by omega) (by omega)
  have hpm : (isq (2 * n * g * m * x * (2 * n * g * m * x) / (d * d * r * r * r)) + 1) / 2 = pmag n d g m x r := rfl
  unfold pullV
  by_cases hn : n < 0 <;> by_cases hx : x < 0
  all_goals simp only [hn, hx, if_true, if_false]
  all_goals
    repeat' (first
      | refine GW_seq ?_
      | simp only [List.length_cons, List.length_nil, Nat.reduceAdd, Nat.reduceMul, thenG_normal, thenG_ret, thenG_exit, thenG_goto, thenG_panic, blockG_normal, blockG_ret, blockG_goto, blockG_panic, jumpG_normal, jumpG_ret, jumpG_exit, jumpG_panic]
      | (refine GW_region' [74,77] (by kernel_rfl) ?_; intro Q hQ hP; simp [hC, hY, sA, wA2, wB, hA0, hB0, hpm, sM, iM, hmb, hn, hx]; (repeat (first | ((refine heapK_sl hck (by simp) (by simp) (by omega) ?_ ?_; focus (simp; done)); try simp [hC, hY, sA, wA2, wB, hA0, hB0, hpm, sM, iM, hmb, hn, hx]) | ((refine heapK_sl t1 (by simp) (by simp) (by omega) ?_ ?_; focus (simp; done)); try simp [hC, hY, sA, wA2, wB, hA0, hB0, hpm, sM, iM, hmb, hn, hx]) | ((refine heapK_sl t2 (by simp) (by simp) (by omega) ?_ ?_; focus (simp; done)); try simp [hC, hY, sA, wA2, wB, hA0, hB0, hpm, sM, iM, hmb, hn, hx]))); (first | refine hQ _ _ _ _ ?_ | refine hP _ _ (fun _ => ?_)); clear hQ hP Q)
      | (refine GW_draw' [74,77] follows (by kernel_rfl) (by kernel_rfl) ?_; intro Q hQ hP; simp [hC, hY, sA, wA2, wB, hA0, hB0, hpm, sM, iM, hmb, hn, hx]; (repeat (first | ((refine heapK_sl hck (by simp) (by simp) (by omega) ?_ ?_; focus (simp; done)); try simp [hC, hY, sA, wA2, wB, hA0, hB0, hpm, sM, iM, hmb, hn, hx]) | ((refine heapK_sl t1 (by simp) (by simp) (by omega) ?_ ?_; focus (simp; done)); try simp [hC, hY, sA, wA2, wB, hA0, hB0, hpm, sM, iM, hmb, hn, hx]) | ((refine heapK_sl t2 (by simp) (by simp) (by omega) ?_ ?_; focus (simp; done)); try simp [hC, hY, sA, wA2, wB, hA0, hB0, hpm, sM, iM, hmb, hn, hx]))); (first | refine hQ _ _ _ _ (by kernel_rfl) ?_ | refine hP _ _ (by kernel_rfl) (fun _ => ?_)); clear hQ hP Q)
      | refine GW_block ?_
      | refine GW_ret ?_
      | refine GW_skip ?_
      | refine GW_exit ?_
      | refine GW_goto ?_
      | refine GW_label ?_
      | simp only [blockG_exit]
      | (refine GW_cond (by simp; rfl) ?_ ?_ <;> (intro hb; first | (exfalso; exact absurd hb (by decide)) | skip)))
  all_goals
    refine ⟨.inr trivial, ?_⟩
    simp [Tryd.results71]
theorem one_bad (n d g m x r : Int) (h : chkE n d g m x r ≠ 0) : RetP Tryd.prog G1 71 #[.int .i64 n, .int .i64 d, .int .i64 g, .int .i64 m, .int .i64 x, .int .i64 r] (.pan (erV (chkE n d g m x r))) := by
  refine retp_of G1F Tryd.func71 rfl Tryd.call71 (fun v h => by cases h) (by simp) (by simp [Tryd.ntmps71]) ?_
  intro C hC hC0 hY
  have hck := check_bad n d g m x r h
  repeat' (first
    | refine GW_seq ?_
    | simp only [List.length_cons, List.length_nil, Nat.reduceAdd, Nat.reduceMul, thenG_normal, thenG_ret, thenG_exit, thenG_goto, thenG_panic, blockG_normal, blockG_ret, blockG_goto, blockG_panic, jumpG_normal, jumpG_ret, jumpG_exit, jumpG_panic]
    | (refine GW_region' [74] (by kernel_rfl) ?_; intro Q hQ hP; simp [hC, hY]; (repeat (first | ((refine heapK_slp hck (by simp) (by omega) (by simp) ?_); try simp [hC, hY]))); (first | refine hQ _ _ _ _ ?_ | refine hP _ _ (fun _ => ?_)); clear hQ hP Q)
    | (refine GW_draw' [74] follows (by kernel_rfl) (by kernel_rfl) ?_; intro Q hQ hP; simp [hC, hY]; (repeat (first | ((refine heapK_slp hck (by simp) (by omega) (by simp) ?_); try simp [hC, hY]))); (first | refine hQ _ _ _ _ (by kernel_rfl) ?_ | refine hP _ _ (by kernel_rfl) (fun _ => ?_)); clear hQ hP Q)
    | refine GW_block ?_
    | refine GW_ret ?_
    | refine GW_skip ?_
    | refine GW_exit ?_
    | refine GW_goto ?_
    | refine GW_label ?_
    | simp only [blockG_exit]
    | (refine GW_cond (by simp; rfl) ?_ ?_ <;> (intro hb; first | (exfalso; exact absurd hb (by decide)) | skip)))
  rfl
end Go.Gy
namespace Go.Gy
set_option linter.unusedSimpArgs false
set_option linter.unusedVariables false
open Go Go.RowKit Go.Proofs
def ib (n : Int) : Blk := ⟨#[.int .i64 n], 3⟩
def sqHp (x0 x1 x2 : Int) : Hp := hpL G1 [(200, vb x0 x1 x2), (208, ib 0)]
theorem sqHp_rst (x0 x1 x2 : Int) : rst (sqHp x0 x1 x2) [200, 208] = sqHp x0 x1 x2 := hpL_rst G1F (by simp)
theorem sqHp_closed (x0 x1 x2 : Int) (D : Nat → Prop) (k : Nat) (c : Blk) (h : sqHp x0 x1 x2 k = some c) : c.ids D := by
  rcases hpL_mem h with h | h
  · simp at h
    rcases h with ⟨_, rfl⟩ | ⟨_, rfl⟩ <;> simp [vb, ib]
  · exact G1_closed _ _ _ h
theorem sqHp_free (x0 x1 x2 : Int) (x : Nat) (hx : 300 ≤ x) : sqHp x0 x1 x2 x = none := by
  simp [sqHp, show ¬ x = 200 by omega, show ¬ x = 208 by omega, show 100 ≤ x by omega]
theorem sq1_ok (x0 x1 x2 : Int) (h0 : inB x0) (h1 : inB x1) (h2 : inB x2) : Fun Tryd.prog G1 72 [.pointer (some ⟨200, 0, none⟩), .pointer (some ⟨208, 0, none⟩)].toArray (sqHp x0 x1 x2) [200, 208] (.ret (.tuple #[]) [(208, ib (x0 * x0 + x1 * x1 + x2 * x2))]) := by
  refine fun_of (B := 300) G1F (fun k hk => hpL_low (by simp) hk) Tryd.func72 rfl Tryd.call72 ?_ ?_ ?_ (by simp [Tryd.ntmps72]) (by omega) ?_ ?_
  · rw [sqHp_rst]; simp [sqHp, dom]
  · rw [sqHp_rst]; exact sqHp_closed x0 x1 x2 _
  · refine ⟨flatV_ids (by simp), by simp [keys, sqHp, dom], fun k b c e1 e2 => ?_, by simp [ib]⟩
    simp at e1 e2
    rw [e1.2, e2.2]
  · rw [sqHp_rst]; exact sqHp_free x0 x1 x2
  · intro C hC hC0 hY
    rw [sqHp_rst] at hC0 ⊢
    repeat' (first
      | refine GW_seq ?_
      | simp only [List.length_cons, List.length_nil, Nat.reduceAdd, Nat.reduceMul, thenG_normal, thenG_ret, thenG_exit, thenG_goto, thenG_panic, blockG_normal, blockG_ret, blockG_goto, blockG_panic, jumpG_normal, jumpG_ret, jumpG_exit, jumpG_panic]
      | (refine GW_region' [1000069] (by kernel_rfl) ?_; intro Q hQ hP; simp [hC, hY, sqHp, vb, ib]; (repeat (first | ((refine callP_of (psum_ok x0 x1 x2 h0 h1 h2) ?_); try simp [hC, hY, sqHp, vb, ib]))); (first | refine hQ _ _ _ _ ?_ | refine hP _ _ (fun _ => ?_)); clear hQ hP Q)
      | (refine GW_draw' [1000069] follows (by kernel_rfl) (by kernel_rfl) ?_; intro Q hQ hP; simp [hC, hY, sqHp, vb, ib]; (repeat (first | ((refine callP_of (psum_ok x0 x1 x2 h0 h1 h2) ?_); try simp [hC, hY, sqHp, vb, ib]))); (first | refine hQ _ _ _ _ (by kernel_rfl) ?_ | refine hP _ _ (by kernel_rfl) (fun _ => ?_)); clear hQ hP Q)
      | refine GW_block ?_
      | refine GW_ret ?_
      | refine GW_skip ?_
      | refine GW_exit ?_
      | refine GW_goto ?_
      | refine GW_label ?_
      | simp only [blockG_exit]
      | (refine GW_cond (by simp; rfl) ?_ ?_ <;> (intro hb; first | (exfalso; exact absurd hb (by decide)) | skip)))
    refine ⟨.inl rfl, by simp [Tryd.results72], fun k hk => ?_⟩
    first | rfl | simp [updL, ib, sqHp, vb]
theorem sq1_bad (x0 x1 x2 : Int) (h : ¬ (inB x0 ∧ inB x1 ∧ inB x2)) : Fun Tryd.prog G1 72 [.pointer (some ⟨200, 0, none⟩), .pointer (some ⟨208, 0, none⟩)].toArray (sqHp x0 x1 x2) [200, 208] (.pan (erV 2)) := by
  have hp : RetP Tryd.prog G1 69 #[vv x0 x1 x2] (.pan (erV 2)) := by
    by_cases h0 : inB x0
    · by_cases h1 : inB x1
      · by_cases h2 : inB x2
        · exact absurd ⟨h0, h1, h2⟩ h
        · exact psum_bad2 x0 x1 x2 h0 h1 h2
      · exact psum_bad1 x0 x1 x2 h0 h1
    · exact psum_bad0 x0 x1 x2 h0
  refine fun_of (B := 300) G1F (fun k hk => hpL_low (by simp) hk) Tryd.func72 rfl Tryd.call72 ?_ ?_ trivial (by simp [Tryd.ntmps72]) (by omega) ?_ ?_
  · rw [sqHp_rst]; simp [sqHp, dom]
  · rw [sqHp_rst]; exact sqHp_closed x0 x1 x2 _
  · rw [sqHp_rst]; exact sqHp_free x0 x1 x2
  · intro C hC hC0 hY
    rw [sqHp_rst] at hC0 ⊢
    repeat' (first
      | refine GW_seq ?_
      | simp only [List.length_cons, List.length_nil, Nat.reduceAdd, Nat.reduceMul, thenG_normal, thenG_ret, thenG_exit, thenG_goto, thenG_panic, blockG_normal, blockG_ret, blockG_goto, blockG_panic, jumpG_normal, jumpG_ret, jumpG_exit, jumpG_panic]
      | (refine GW_region' [1000069] (by kernel_rfl) ?_; intro Q hQ hP; simp [hC, hY, sqHp, vb, ib]; (repeat (first | ((refine callP_of hp ?_); try simp [hC, hY, sqHp, vb, ib]))); (first | refine hQ _ _ _ _ ?_ | refine hP _ _ (fun _ => ?_)); clear hQ hP Q)
      | (refine GW_draw' [1000069] follows (by kernel_rfl) (by kernel_rfl) ?_; intro Q hQ hP; simp [hC, hY, sqHp, vb, ib]; (repeat (first | ((refine callP_of hp ?_); try simp [hC, hY, sqHp, vb, ib]))); (first | refine hQ _ _ _ _ (by kernel_rfl) ?_ | refine hP _ _ (by kernel_rfl) (fun _ => ?_)); clear hQ hP Q)
      | refine GW_block ?_
      | refine GW_ret ?_
      | refine GW_skip ?_
      | refine GW_exit ?_
      | refine GW_goto ?_
      | refine GW_label ?_
      | simp only [blockG_exit]
      | (refine GW_cond (by simp; rfl) ?_ ?_ <;> (intro hb; first | (exfalso; exact absurd hb (by decide)) | skip)))
    refine ⟨rfl, fun k hk => ?_⟩
    have hk3 : k < 300 := Classical.byContradiction fun h => hk (sqHp_free x0 x1 x2 k (by omega))
    first | rfl | (simp (disch := omega) only [upd_far]; rfl)
theorem psq_ret (x0 x1 x2 : Int) (h0 : inB x0) (h1 : inB x1) (h2 : inB x2) : Ret Tryd.prog G1 34 #[vv x0 x1 x2] (.tuple #[.int .i64 (x0 * x0 + x1 * x1 + x2 * x2), .int .i64 0]) := by
  refine ret_of G1F Tryd.func34 rfl Tryd.call34 (by simp) (by simp [vv]) (by simp [Tryd.ntmps34]) ?_
  intro C hC hC0 hY
  repeat' (first
    | refine GW_seq ?_
    | simp only [List.length_cons, List.length_nil, Nat.reduceAdd, Nat.reduceMul, thenG_normal, thenG_ret, thenG_exit, thenG_goto, thenG_panic, blockG_normal, blockG_ret, blockG_goto, blockG_panic, jumpG_normal, jumpG_ret, jumpG_exit, jumpG_panic]
    | (refine GW_region' [67] (by kernel_rfl) ?_; intro Q hQ hP; simp [hC, hY, vv, ib]; (repeat (first | ((refine heapK_of (hp' := sqHp x0 x1 x2) (ptold_ret (fun k hk => hpL_low (by simp) hk) (by simp) rfl (by simp) (sq1_ok x0 x1 x2 h0 h1 h2)) (by simp [sqHp, vb, ib]) (fun k hk => hpL_low (by simp) hk) trivial ?_); try simp [hC, hY, vv, ib]))); (first | refine hQ _ _ _ _ ?_ | refine hP _ _ (fun _ => ?_)); clear hQ hP Q)
    | (refine GW_draw' [67] follows (by kernel_rfl) (by kernel_rfl) ?_; intro Q hQ hP; simp [hC, hY, vv, ib]; (repeat (first | ((refine heapK_of (hp' := sqHp x0 x1 x2) (ptold_ret (fun k hk => hpL_low (by simp) hk) (by simp) rfl (by simp) (sq1_ok x0 x1 x2 h0 h1 h2)) (by simp [sqHp, vb, ib]) (fun k hk => hpL_low (by simp) hk) trivial ?_); try simp [hC, hY, vv, ib]))); (first | refine hQ _ _ _ _ (by kernel_rfl) ?_ | refine hP _ _ (by kernel_rfl) (fun _ => ?_)); clear hQ hP Q)
    | refine GW_block ?_
    | refine GW_ret ?_
    | refine GW_skip ?_
    | refine GW_exit ?_
    | refine GW_goto ?_
    | refine GW_label ?_
    | simp only [blockG_exit]
    | (refine GW_cond (by simp; rfl) ?_ ?_ <;> (intro hb; first | (exfalso; exact absurd hb (by decide)) | skip)))
  refine ⟨.inr trivial, ?_⟩
  simp [Tryd.results34]
theorem psq_bad (x0 x1 x2 : Int) (h : ¬ (inB x0 ∧ inB x1 ∧ inB x2)) : Ret Tryd.prog G1 34 #[vv x0 x1 x2] (.tuple #[.int .i64 0, .int .i64 2]) := by
  refine ret_of G1F Tryd.func34 rfl Tryd.call34 (by simp) (by simp [vv]) (by simp [Tryd.ntmps34]) ?_
  intro C hC hC0 hY
  repeat' (first
    | refine GW_seq ?_
    | simp only [List.length_cons, List.length_nil, Nat.reduceAdd, Nat.reduceMul, thenG_normal, thenG_ret, thenG_exit, thenG_goto, thenG_panic, blockG_normal, blockG_ret, blockG_goto, blockG_panic, jumpG_normal, jumpG_ret, jumpG_exit, jumpG_panic]
    | (refine GW_region' [67] (by kernel_rfl) ?_; intro Q hQ hP; simp [hC, hY, vv, ib]; (repeat (first | ((refine heapK_of (hp' := sqHp x0 x1 x2) (ptold_pan (fun k hk => hpL_low (by simp) hk) (by simp) rfl (by simp) (sq1_bad x0 x1 x2 h)) (by simp [sqHp, vb, ib]) (fun k hk => hpL_low (by simp) hk) trivial ?_); try simp [hC, hY, vv, ib]))); (first | refine hQ _ _ _ _ ?_ | refine hP _ _ (fun _ => ?_)); clear hQ hP Q)
    | (refine GW_draw' [67] follows (by kernel_rfl) (by kernel_rfl) ?_; intro Q hQ hP; simp [hC, hY, vv, ib]; (repeat (first | ((refine heapK_of (hp' := sqHp x0 x1 x2) (ptold_pan (fun k hk => hpL_low (by simp) hk) (by simp) rfl (by simp) (sq1_bad x0 x1 x2 h)) (by simp [sqHp, vb, ib]) (fun k hk => hpL_low (by simp) hk) trivial ?_); try simp [hC, hY, vv, ib]))); (first | refine hQ _ _ _ _ (by kernel_rfl) ?_ | refine hP _ _ (by kernel_rfl) (fun _ => ?_)); clear hQ hP Q)
    | refine GW_block ?_
    | refine GW_ret ?_
    | refine GW_skip ?_
    | refine GW_exit ?_
    | refine GW_goto ?_
    | refine GW_label ?_
    | simp only [blockG_exit]
    | (refine GW_cond (by simp; rfl) ?_ ?_ <;> (intro hb; first | (exfalso; exact absurd hb (by decide)) | skip)))
  refine ⟨.inr trivial, ?_⟩
  simp [Tryd.results34]
@[simp] theorem psq (x0 x1 x2 : Int) (h0 : inB x0) (h1 : inB x1) (h2 : inB x2) (K : Value → Prop) : callK Tryd.prog G1 34 #[.agg #[.int .i64 x0, .int .i64 x1, .int .i64 x2]] K ↔ K (.tuple #[.int .i64 (x0 * x0 + x1 * x1 + x2 * x2), .int .i64 0]) := callK_iff G1W (by kernel_rfl) (psq_ret x0 x1 x2 h0 h1 h2)
/-! Beyond -/
def byHp (n d g m r : Int) : Hp := hpL G1 [(200, ib n), (208, ib d), (216, ib g), (224, ib m), (232, ib r)]
theorem byHp_rst (n d g m r : Int) : rst (byHp n d g m r) [200, 208, 216, 224, 232] = byHp n d g m r := hpL_rst G1F (by simp)
theorem byHp_closed (n d g m r : Int) (D : Nat → Prop) (k : Nat) (c : Blk) (h : byHp n d g m r k = some c) : c.ids D := by
  rcases hpL_mem h with h | h
  · simp at h
    rcases h with ⟨_, rfl⟩ | ⟨_, rfl⟩ | ⟨_, rfl⟩ | ⟨_, rfl⟩ | ⟨_, rfl⟩ <;> simp [ib]
  · exact G1_closed _ _ _ h
theorem byHp_free (n d g m r : Int) (x : Nat) (hx : 300 ≤ x) : byHp n d g m r x = none := by
  simp [byHp, show ¬ x = 200 by omega, show ¬ x = 208 by omega, show ¬ x = 216 by omega, show ¬ x = 224 by omega, show ¬ x = 232 by omega, show 100 ≤ x by omega]
def byCap : List Value := [.pointer (some ⟨200, 0, none⟩), .pointer (some ⟨208, 0, none⟩), .pointer (some ⟨216, 0, none⟩), .pointer (some ⟨224, 0, none⟩), .pointer (some ⟨232, 0, none⟩)]
theorem by1_ok (n d g m r : Int) (h : chkE n d g m 0 r = 0) : Fun Tryd.prog G1 73 [.pointer (some ⟨200, 0, none⟩), .pointer (some ⟨208, 0, none⟩), .pointer (some ⟨216, 0, none⟩), .pointer (some ⟨224, 0, none⟩), .pointer (some ⟨232, 0, none⟩)].toArray (byHp n d g m r) [200, 208, 216, 224, 232] (.ret (.tuple #[]) []) := by
  have hck := check_ok n d g m 0 r h
  refine fun_of (B := 300) G1F (fun k hk => hpL_low (by simp) hk) Tryd.func73 rfl Tryd.call73 ?_ ?_ ⟨flatV_ids (by simp), by simp [keys], by simp, by simp⟩ (by simp [Tryd.ntmps73]) (by omega) ?_ ?_
  · rw [byHp_rst]; simp [byHp, dom]
  · rw [byHp_rst]; exact byHp_closed n d g m r _
  · rw [byHp_rst]; exact byHp_free n d g m r
  · intro C hC hC0 hY
    rw [byHp_rst] at hC0 ⊢
    repeat' (first
      | refine GW_seq ?_
      | simp only [List.length_cons, List.length_nil, Nat.reduceAdd, Nat.reduceMul, thenG_normal, thenG_ret, thenG_exit, thenG_goto, thenG_panic, blockG_normal, blockG_ret, blockG_goto, blockG_panic, jumpG_normal, jumpG_ret, jumpG_exit, jumpG_panic]
      | (refine GW_region' [74] (by kernel_rfl) ?_; intro Q hQ hP; simp [hC, hY, byHp, ib]; (repeat (first | ((refine heapK_sl hck (by simp) (by simp) (by omega) ?_ ?_; focus (simp; done)); try simp [hC, hY, byHp, ib]))); (first | refine hQ _ _ _ _ ?_ | refine hP _ _ (fun _ => ?_)); clear hQ hP Q)
      | (refine GW_draw' [74] follows (by kernel_rfl) (by kernel_rfl) ?_; intro Q hQ hP; simp [hC, hY, byHp, ib]; (repeat (first | ((refine heapK_sl hck (by simp) (by simp) (by omega) ?_ ?_; focus (simp; done)); try simp [hC, hY, byHp, ib]))); (first | refine hQ _ _ _ _ (by kernel_rfl) ?_ | refine hP _ _ (by kernel_rfl) (fun _ => ?_)); clear hQ hP Q)
      | refine GW_block ?_
      | refine GW_ret ?_
      | refine GW_skip ?_
      | refine GW_exit ?_
      | refine GW_goto ?_
      | refine GW_label ?_
      | simp only [blockG_exit]
      | (refine GW_cond (by simp; rfl) ?_ ?_ <;> (intro hb; first | (exfalso; exact absurd hb (by decide)) | skip)))
    refine ⟨.inl rfl, by simp [Tryd.results73], fun k hk => ?_⟩
    have hk3 : k < 300 := Classical.byContradiction fun h => hk (byHp_free n d g m r k (by omega))
    first | rfl | (simp (disch := omega) only [upd_far]; rfl)
theorem by1_bad (n d g m r : Int) (h : chkE n d g m 0 r ≠ 0) : Fun Tryd.prog G1 73 [.pointer (some ⟨200, 0, none⟩), .pointer (some ⟨208, 0, none⟩), .pointer (some ⟨216, 0, none⟩), .pointer (some ⟨224, 0, none⟩), .pointer (some ⟨232, 0, none⟩)].toArray (byHp n d g m r) [200, 208, 216, 224, 232] (.pan (erV (chkE n d g m 0 r))) := by
  have hck := check_bad n d g m 0 r h
  refine fun_of (B := 300) G1F (fun k hk => hpL_low (by simp) hk) Tryd.func73 rfl Tryd.call73 ?_ ?_ trivial (by simp [Tryd.ntmps73]) (by omega) ?_ ?_
  · rw [byHp_rst]; simp [byHp, dom]
  · rw [byHp_rst]; exact byHp_closed n d g m r _
  · rw [byHp_rst]; exact byHp_free n d g m r
  · intro C hC hC0 hY
    rw [byHp_rst] at hC0 ⊢
    repeat' (first
      | refine GW_seq ?_
      | simp only [List.length_cons, List.length_nil, Nat.reduceAdd, Nat.reduceMul, thenG_normal, thenG_ret, thenG_exit, thenG_goto, thenG_panic, blockG_normal, blockG_ret, blockG_goto, blockG_panic, jumpG_normal, jumpG_ret, jumpG_exit, jumpG_panic]
      | (refine GW_region' [74] (by kernel_rfl) ?_; intro Q hQ hP; simp [hC, hY, byHp, ib]; (repeat (first | ((refine heapK_slp hck (by simp) (by omega) ?_ ?_; focus (simp; done)); try simp [hC, hY, byHp, ib]))); (first | refine hQ _ _ _ _ ?_ | refine hP _ _ (fun _ => ?_)); clear hQ hP Q)
      | (refine GW_draw' [74] follows (by kernel_rfl) (by kernel_rfl) ?_; intro Q hQ hP; simp [hC, hY, byHp, ib]; (repeat (first | ((refine heapK_slp hck (by simp) (by omega) ?_ ?_; focus (simp; done)); try simp [hC, hY, byHp, ib]))); (first | refine hQ _ _ _ _ (by kernel_rfl) ?_ | refine hP _ _ (by kernel_rfl) (fun _ => ?_)); clear hQ hP Q)
      | refine GW_block ?_
      | refine GW_ret ?_
      | refine GW_skip ?_
      | refine GW_exit ?_
      | refine GW_goto ?_
      | refine GW_label ?_
      | simp only [blockG_exit]
      | (refine GW_cond (by simp; rfl) ?_ ?_ <;> (intro hb; first | (exfalso; exact absurd hb (by decide)) | skip)))
    refine ⟨rfl, fun k hk => ?_⟩
    have hk3 : k < 300 := Classical.byContradiction fun h => hk (byHp_free n d g m r k (by omega))
    first | rfl | (simp (disch := omega) only [upd_far]; rfl)
theorem pby_bad (n d g m r : Int) (h : chkE n d g m 0 r ≠ 0) : Ret Tryd.prog G1 36 #[.int .i64 n, .int .i64 d, .int .i64 g, .int .i64 m, .int .i64 r] (.bool false) := by
  refine ret_of G1F Tryd.func36 rfl Tryd.call36 (by simp) (by simp) (by simp [Tryd.ntmps36]) ?_
  intro C hC hC0 hY
  have hcb : (chkE n d g m 0 r != 0) = true := by simpa using h
  repeat' (first
    | refine GW_seq ?_
    | simp only [List.length_cons, List.length_nil, Nat.reduceAdd, Nat.reduceMul, thenG_normal, thenG_ret, thenG_exit, thenG_goto, thenG_panic, blockG_normal, blockG_ret, blockG_goto, blockG_panic, jumpG_normal, jumpG_ret, jumpG_exit, jumpG_panic]
    | (refine GW_region' [67] (by kernel_rfl) ?_; intro Q hQ hP; simp [hC, hY, ib, hcb]; (repeat (first | ((refine heapK_of (hp' := byHp n d g m r) (ptold_pan (fun k hk => hpL_low (by simp) hk) (by simp) rfl (by simp) (by1_bad n d g m r h)) (by simp [byHp, ib]) (fun k hk => hpL_low (by simp) hk) trivial ?_); try simp [hC, hY, ib, hcb]))); (first | refine hQ _ _ _ _ ?_ | refine hP _ _ (fun _ => ?_)); clear hQ hP Q)
    | (refine GW_draw' [67] follows (by kernel_rfl) (by kernel_rfl) ?_; intro Q hQ hP; simp [hC, hY, ib, hcb]; (repeat (first | ((refine heapK_of (hp' := byHp n d g m r) (ptold_pan (fun k hk => hpL_low (by simp) hk) (by simp) rfl (by simp) (by1_bad n d g m r h)) (by simp [byHp, ib]) (fun k hk => hpL_low (by simp) hk) trivial ?_); try simp [hC, hY, ib, hcb]))); (first | refine hQ _ _ _ _ (by kernel_rfl) ?_ | refine hP _ _ (by kernel_rfl) (fun _ => ?_)); clear hQ hP Q)
    | refine GW_block ?_
    | refine GW_ret ?_
    | refine GW_skip ?_
    | refine GW_exit ?_
    | refine GW_goto ?_
    | refine GW_label ?_
    | simp only [blockG_exit]
    | (refine GW_cond (by simp; rfl) ?_ ?_ <;> (intro hb; first | (exfalso; exact absurd hb (by decide)) | skip)))
  refine ⟨.inr trivial, ?_⟩
  simp [Tryd.results36]
theorem pby_ret (n d g m r : Int) (h : PIn n d g m 0 r) : Ret Tryd.prog G1 36 #[.int .i64 n, .int .i64 d, .int .i64 g, .int .i64 m, .int .i64 r] (.bool (decide (2 * n * g * m * (2 * n * g * m) < d * r * (d * r)))) := by
  refine ret_of G1F Tryd.func36 rfl Tryd.call36 rfl (by simp) (by simp [Tryd.ntmps36]) ?_
  intro C hC hC0 hY
  have p1 := h.p1
  have p2 := h.p2
  have p3 := h.p3
  have hr0 := h.r0
  have hr1 := h.r1
  have hd0 := h.d0
  have hd1 := h.d1
  have hdr := absmul (p := 2097152) (q := 13194139533312) (by omega) hd1 (by omega) hr1
  have t1 := times4_fun 2 n g m ⟨⟨by decide, by decide⟩, ⟨by have := h.n0; omega, by have := h.n1; omega⟩, ⟨by have := h.g0; omega, by have := h.g1; omega⟩, ⟨by have := h.m0; omega, by have := h.m1; omega⟩⟩
    ⟨⟨by decide, by decide⟩, ⟨by omega, by omega⟩, ⟨by omega, by omega⟩, ⟨by omega, by omega⟩⟩
  have t2 := times2_fun d r ⟨⟨by omega, by omega⟩, ⟨by omega, by omega⟩⟩ ⟨⟨by omega, by omega⟩, ⟨by omega, by omega⟩⟩
  have sA := wr_sz (z := 2 * n * g * m) ⟨by omega, by omega⟩
  have sB := wr_sz (z := d * r) ⟨by omega, by omega⟩
  have hA := (absmul p3.1 p3.2 p3.1 p3.2)
  have hB := (absmul hdr.1 hdr.2 hdr.1 hdr.2)
  have sA2 := wr_sz (z := 2 * n * g * m * (2 * n * g * m)) ⟨by omega, by omega⟩
  have sB2 := wr_sz (z := d * r * (d * r)) ⟨by omega, by omega⟩
  repeat' (first
    | refine GW_seq ?_
    | simp only [List.length_cons, List.length_nil, Nat.reduceAdd, Nat.reduceMul, thenG_normal, thenG_ret, thenG_exit, thenG_goto, thenG_panic, blockG_normal, blockG_ret, blockG_goto, blockG_panic, jumpG_normal, jumpG_ret, jumpG_exit, jumpG_panic]
    | (refine GW_region' [67,77] (by kernel_rfl) ?_; intro Q hQ hP; simp [hC, hY, ib, sA, sB, sA2, sB2]; (repeat (first | ((refine heapK_of (hp' := byHp n d g m r) (ptold_ret (fun k hk => hpL_low (by simp) hk) (by simp) rfl (by simp) (by1_ok n d g m r (chk_in.2 h))) (by simp [byHp, ib]) (fun k hk => hpL_low (by simp) hk) trivial ?_); try simp [hC, hY, ib, sA, sB, sA2, sB2]) | ((refine heapK_sl t1 (by simp) (by simp) (by omega) ?_ ?_; focus (simp; done)); try simp [hC, hY, ib, sA, sB, sA2, sB2]) | ((refine heapK_sl t2 (by simp) (by simp) (by omega) ?_ ?_; focus (simp; done)); try simp [hC, hY, ib, sA, sB, sA2, sB2]))); (first | refine hQ _ _ _ _ ?_ | refine hP _ _ (fun _ => ?_)); clear hQ hP Q)
    | (refine GW_draw' [67,77] follows (by kernel_rfl) (by kernel_rfl) ?_; intro Q hQ hP; simp [hC, hY, ib, sA, sB, sA2, sB2]; (repeat (first | ((refine heapK_of (hp' := byHp n d g m r) (ptold_ret (fun k hk => hpL_low (by simp) hk) (by simp) rfl (by simp) (by1_ok n d g m r (chk_in.2 h))) (by simp [byHp, ib]) (fun k hk => hpL_low (by simp) hk) trivial ?_); try simp [hC, hY, ib, sA, sB, sA2, sB2]) | ((refine heapK_sl t1 (by simp) (by simp) (by omega) ?_ ?_; focus (simp; done)); try simp [hC, hY, ib, sA, sB, sA2, sB2]) | ((refine heapK_sl t2 (by simp) (by simp) (by omega) ?_ ?_; focus (simp; done)); try simp [hC, hY, ib, sA, sB, sA2, sB2]))); (first | refine hQ _ _ _ _ (by kernel_rfl) ?_ | refine hP _ _ (by kernel_rfl) (fun _ => ?_)); clear hQ hP Q)
    | refine GW_block ?_
    | refine GW_ret ?_
    | refine GW_skip ?_
    | refine GW_exit ?_
    | refine GW_goto ?_
    | refine GW_label ?_
    | simp only [blockG_exit]
    | (refine GW_cond (by simp; rfl) ?_ ?_ <;> (intro hb; first | (exfalso; exact absurd hb (by decide)) | skip)))
  refine ⟨.inr trivial, ?_⟩
  simp [Tryd.results36]
  generalize 2 * n * g * m * (2 * n * g * m) = A
  generalize d * r * (d * r) = B
  unfold cmpI
  (repeat' split) <;> omega
end Go.Gy
namespace Go.Gy
set_option linter.unusedSimpArgs false
set_option linter.unusedVariables false
open Go Go.RowKit Go.Proofs
def puL (n d g m x0 x1 x2 : Int) (v : Blk) : List (Nat × Blk) := [(200, ib n), (208, ib d), (216, ib g), (224, ib m), (232, vb x0 x1 x2), (256, v)]
def puHp (n d g m x0 x1 x2 : Int) : Hp := hpL G1 (puL n d g m x0 x1 x2 (vb 0 0 0))
theorem puHp_rst (n d g m x0 x1 x2 : Int) : rst (puHp n d g m x0 x1 x2) [200, 208, 216, 224, 232, 256] = puHp n d g m x0 x1 x2 := hpL_rst G1F (by simp [puL])
theorem puHp_closed (n d g m x0 x1 x2 : Int) (D : Nat → Prop) (k : Nat) (c : Blk) (h : puHp n d g m x0 x1 x2 k = some c) : c.ids D := by
  rcases hpL_mem h with h | h
  · simp [puL] at h
    rcases h with ⟨_, rfl⟩ | ⟨_, rfl⟩ | ⟨_, rfl⟩ | ⟨_, rfl⟩ | ⟨_, rfl⟩ | ⟨_, rfl⟩ <;> simp [ib, vb]
  · exact G1_closed _ _ _ h
theorem puHp_free (n d g m x0 x1 x2 : Int) (x : Nat) (hx : 300 ≤ x) : puHp n d g m x0 x1 x2 x = none := by
  simp [puHp, puL, show ¬ x = 200 by omega, show ¬ x = 208 by omega, show ¬ x = 216 by omega, show ¬ x = 224 by omega, show ¬ x = 232 by omega, show ¬ x = 256 by omega, show 100 ≤ x by omega]
theorem psum_bad (x0 x1 x2 : Int) (h : ¬ (inB x0 ∧ inB x1 ∧ inB x2)) : RetP Tryd.prog G1 69 #[vv x0 x1 x2] (.pan (erV 2)) := by
  by_cases h0 : inB x0
  · by_cases h1 : inB x1
    · by_cases h2 : inB x2
      · exact absurd ⟨h0, h1, h2⟩ h
      · exact psum_bad2 x0 x1 x2 h0 h1 h2
    · exact psum_bad1 x0 x1 x2 h0 h1
  · exact psum_bad0 x0 x1 x2 h0
def puX (n d g m x0 x1 x2 r v0 v1 v2 : Int) (i : Nat) : Hp := hpL G1 [(200, ib n), (208, ib d), (216, ib g), (224, ib m), (232, vb x0 x1 x2), (256, vb (if 0 < i then v0 else 0) (if 1 < i then v1 else 0) (if 2 < i then v2 else 0)), (316, ib r)]
def puT : Nat → Value := tsL [(0, .pointer (some ⟨232, 0, none⟩)), (1, .pointer (some ⟨200, 0, none⟩)), (2, .pointer (some ⟨208, 0, none⟩)), (3, .pointer (some ⟨216, 0, none⟩)), (4, .pointer (some ⟨224, 0, none⟩)), (5, .pointer (some ⟨256, 0, none⟩)), (6, .pointer (some ⟨316, 0, none⟩))]
set_option maxHeartbeats 1000000 in
theorem pu1_ok (n d g m x0 x1 x2 : Int) (h0 : inB x0) (h1 : inB x1) (h2 : inB x2) (k0 : PIn n d g m x0 (x0 * x0 + x1 * x1 + x2 * x2)) (k1 : PIn n d g m x1 (x0 * x0 + x1 * x1 + x2 * x2)) (k2 : PIn n d g m x2 (x0 * x0 + x1 * x1 + x2 * x2)) :
    Fun Tryd.prog G1 68 [.pointer (some ⟨232, 0, none⟩), .pointer (some ⟨200, 0, none⟩), .pointer (some ⟨208, 0, none⟩), .pointer (some ⟨216, 0, none⟩), .pointer (some ⟨224, 0, none⟩), .pointer (some ⟨256, 0, none⟩)].toArray (puHp n d g m x0 x1 x2) [200, 208, 216, 224, 232, 256]
      (.ret (.tuple #[]) [(256, vb (pullV n d g m x0 (x0 * x0 + x1 * x1 + x2 * x2)) (pullV n d g m x1 (x0 * x0 + x1 * x1 + x2 * x2)) (pullV n d g m x2 (x0 * x0 + x1 * x1 + x2 * x2)))]) := by
  refine fun_of (B := 300) G1F (fun k hk => hpL_low (by simp [puL]) hk) Tryd.func68 rfl Tryd.call68 ?_ ?_ ?_ (by simp [Tryd.ntmps68]) (by omega) ?_ ?_
  · rw [puHp_rst]; simp [puHp, puL, dom]
  · rw [puHp_rst]; exact puHp_closed n d g m x0 x1 x2 _
  · refine ⟨flatV_ids (by simp), by simp [keys, puHp, puL, dom], fun k b c e1 e2 => ?_, by simp [vb]⟩
    simp at e1 e2
    rw [e1.2, e2.2]
  · rw [puHp_rst]; exact puHp_free n d g m x0 x1 x2
  · intro C hC hC0 hY
    rw [puHp_rst] at hC0 ⊢
    generalize hr : x0 * x0 + x1 * x1 + x2 * x2 = r at *
    have hsum := psum_ok x0 x1 x2 h0 h1 h2
    rw [hr] at hsum
    repeat' (first
      | refine GW_seq ?_
      | simp only [List.length_cons, List.length_nil, Nat.reduceAdd, Nat.reduceMul, thenG_normal, thenG_ret, thenG_exit, thenG_goto, thenG_panic, blockG_normal, blockG_ret, blockG_goto, blockG_panic, jumpG_normal, jumpG_ret, jumpG_exit, jumpG_panic]
      | (refine GW_region' [1000069] (by kernel_rfl) ?_; intro Q hQ hP; simp [hC, hY, puHp, puL, vb, ib]; (repeat (first | ((refine callP_of hsum ?_); try simp [hC, hY, puHp, puL, vb, ib]))); (first | refine hQ _ _ _ _ ?_ | refine hP _ _ (fun _ => ?_)); clear hQ hP Q)
      | (refine GW_draw' [1000069] follows (by kernel_rfl) (by kernel_rfl) ?_; intro Q hQ hP; simp [hC, hY, puHp, puL, vb, ib]; (repeat (first | ((refine callP_of hsum ?_); try simp [hC, hY, puHp, puL, vb, ib]))); (first | refine hQ _ _ _ _ (by kernel_rfl) ?_ | refine hP _ _ (by kernel_rfl) (fun _ => ?_)); clear hQ hP Q)
      | refine GW_block ?_
      | refine GW_ret ?_
      | refine GW_skip ?_
      | refine GW_exit ?_
      | refine GW_goto ?_
      | refine GW_label ?_
      | simp only [blockG_exit]
      | (refine GW_cond (by simp; rfl) ?_ ?_ <;> (intro hb; first | (exfalso; exact absurd hb (by decide)) | skip)))
    refine GW_region' [70] (by kernel_rfl) ?_; intro Q hQ hP; simp [hC, hY]
    refine heapK_of (parts_new x0 x1 x2 340 (by omega)) (by simp) (fun _ _ => rfl) (by simp [Res.at]) ?_
    simp
    refine hQ _ _ _ _ ?_; clear hQ hP Q
    repeat' (first
      | refine GW_seq ?_
      | simp only [List.length_cons, List.length_nil, Nat.reduceAdd, Nat.reduceMul, thenG_normal, thenG_ret, thenG_exit, thenG_goto, thenG_panic, blockG_normal, blockG_ret, blockG_goto, blockG_panic, jumpG_normal, jumpG_ret, jumpG_exit, jumpG_panic]
      | (refine GW_region' [] (by kernel_rfl) ?_; intro Q hQ hP; simp [hC, hY]; (first | refine hQ _ _ _ _ ?_ | refine hP _ _ (fun _ => ?_)); clear hQ hP Q)
      | (refine GW_draw' [] follows (by kernel_rfl) (by kernel_rfl) ?_; intro Q hQ hP; simp [hC, hY]; (first | refine hQ _ _ _ _ (by kernel_rfl) ?_ | refine hP _ _ (by kernel_rfl) (fun _ => ?_)); clear hQ hP Q)
      | refine GW_block ?_
      | refine GW_ret ?_
      | refine GW_skip ?_
      | refine GW_exit ?_
      | refine GW_goto ?_
      | refine GW_label ?_
      | simp only [blockG_exit]
      | (refine GW_cond (by simp; rfl) ?_ ?_ <;> (intro hb; first | (exfalso; exact absurd hb (by decide)) | skip)))
    refine GW_range (f := 94) (rs := [340]) (xs := partsXs x0 x1 x2) (caps := #[.pointer (some ⟨340, 0, none⟩)]) (by simp) ?_ (by simp [partsXs]) (by simp [Tryd.ntmps68]) puT (puX n d g m x0 x1 x2 r (pullV n d g m x0 r) (pullV n d g m x1 r) (pullV n d g m x2 r)) 400 3 (by simp [partsXs]) ?_ ?_ ?_ ?_ ?_
    · rw [hC]
      refine IterX.cast (IterX.rn (fun k => if k = 100 then 340 else k) G1F (fun k hk => hpL_low (by simp) hk) (rs := [100]) ?_ (parts_it x0 x1 x2)) (by simp [ren0]) (by simp)
      refine ⟨fun k hk => ?_, ?_, ?_, ?_⟩
      · have e1 : ¬ k = 100 := by omega
        have e2 : ¬ k = 200 := by omega
        have e3 : ¬ k = 208 := by omega
        have e4 : ¬ k = 216 := by omega
        have e5 : ¬ k = 224 := by omega
        have e6 : ¬ k = 232 := by omega
        have e7 : ¬ k = 256 := by omega
        have e8 : ¬ k = 316 := by omega
        have e9 : ¬ k = 340 := by omega
        simp [e1, e2, e3, e4, e5, e6, e7, e8, e9, pHp]
      · simp
      · simp [pHp, vb, Blk.rn, renF, ren0]
      · simp
    · refine weakL _ 400 hC G1F (m0 := puL n d g m x0 x1 x2 (vb 0 0 0)) hC0 (by omega) ?_ ?_ ?_
      · simp [idsV, idsA, idsF, ids0, dom]
      · simp [ids_lit, idsF, ids0, vb, ib]
      · simp [vb, ib, puL]
    · simp [puX, dom]
    · intro i hi t
      refine tsL_ids ?_ t
      simp [idsV, idsA, idsF, ids0, dom, puX]
    · intro i x hi hx C1 l hC1 hh1 hY1
      have hCC := hC
      have hC1' : C1.G = G1 := hC1.trans hC
      replace hC := hC1'
      replace hY := hY1
      have : i = 0 ∨ i = 1 ∨ i = 2 := by omega
      rcases this with rfl | rfl | rfl
      all_goals
        simp [partsXs] at hx
        subst hx
        unfold puX
      all_goals
        repeat' (first
          | refine GW_seq ?_
          | simp only [List.length_cons, List.length_nil, Nat.reduceAdd, Nat.reduceMul, thenG_normal, thenG_ret, thenG_exit, thenG_goto, thenG_panic, blockG_normal, blockG_ret, blockG_goto, blockG_panic, jumpG_normal, jumpG_ret, jumpG_exit, jumpG_panic]
          | (refine GW_region' [] (by kernel_rfl) ?_; intro Q hQ hP; simp [hC, hY, roundTs, puT]; (first | refine hQ _ _ _ _ ?_ | refine hP _ _ (fun _ => ?_)); clear hQ hP Q)
          | (refine GW_draw' [] follows (by kernel_rfl) (by kernel_rfl) ?_; intro Q hQ hP; simp [hC, hY, roundTs, puT]; (first | refine hQ _ _ _ _ (by kernel_rfl) ?_ | refine hP _ _ (by kernel_rfl) (fun _ => ?_)); clear hQ hP Q)
          | refine GW_block ?_
          | refine GW_ret ?_
          | refine GW_skip ?_
          | refine GW_exit ?_
          | refine GW_goto ?_
          | refine GW_label ?_
          | simp only [blockG_exit]
          | (refine GW_cond (by simp; rfl) ?_ ?_ <;> (intro hb; first | (exfalso; exact absurd hb (by decide)) | skip)))
      all_goals
        intro C2 hC2 hh2 hY2
        replace hC : C2.G = G1 := hC2.trans hCC
        replace hY := hY2
        repeat' (first
          | refine GW_seq ?_
          | simp only [List.length_cons, List.length_nil, Nat.reduceAdd, Nat.reduceMul, thenG_normal, thenG_ret, thenG_exit, thenG_goto, thenG_panic, blockG_normal, blockG_ret, blockG_goto, blockG_panic, jumpG_normal, jumpG_ret, jumpG_exit, jumpG_panic]
          | (refine GW_region' [1000071] (by kernel_rfl) ?_; intro Q hQ hP; simp [hC, hY, roundTs, puT, vb, ib]; (repeat (first | ((refine callP_of (one_ok _ _ _ _ _ _ k0) ?_); try simp [hC, hY, roundTs, puT, vb, ib]) | ((refine callP_of (one_ok _ _ _ _ _ _ k1) ?_); try simp [hC, hY, roundTs, puT, vb, ib]) | ((refine callP_of (one_ok _ _ _ _ _ _ k2) ?_); try simp [hC, hY, roundTs, puT, vb, ib]))); (first | refine hQ _ _ _ _ ?_ | refine hP _ _ (fun _ => ?_)); clear hQ hP Q)
          | (refine GW_draw' [1000071] follows (by kernel_rfl) (by kernel_rfl) ?_; intro Q hQ hP; simp [hC, hY, roundTs, puT, vb, ib]; (repeat (first | ((refine callP_of (one_ok _ _ _ _ _ _ k0) ?_); try simp [hC, hY, roundTs, puT, vb, ib]) | ((refine callP_of (one_ok _ _ _ _ _ _ k1) ?_); try simp [hC, hY, roundTs, puT, vb, ib]) | ((refine callP_of (one_ok _ _ _ _ _ _ k2) ?_); try simp [hC, hY, roundTs, puT, vb, ib]))); (first | refine hQ _ _ _ _ (by kernel_rfl) ?_ | refine hP _ _ (by kernel_rfl) (fun _ => ?_)); clear hQ hP Q)
          | refine GW_block ?_
          | refine GW_ret ?_
          | refine GW_skip ?_
          | refine GW_exit ?_
          | refine GW_goto ?_
          | refine GW_label ?_
          | simp only [blockG_exit]
          | (refine GW_cond (by simp; rfl) ?_ ?_ <;> (intro hb; first | (exfalso; exact absurd hb (by decide)) | skip)))
      all_goals
        refine weakL [] 400 hC1' G1F hh1 (by omega) ?_ ?_ ?_
        · simp
        · simp [ids_lit, idsF, ids0, vb, ib]
        · simp [vb, ib]
    · left
      refine ⟨rfl, ?_⟩
      unfold puX puT
      repeat' (first
        | refine GW_seq ?_
        | simp only [List.length_cons, List.length_nil, Nat.reduceAdd, Nat.reduceMul, thenG_normal, thenG_ret, thenG_exit, thenG_goto, thenG_panic, blockG_normal, blockG_ret, blockG_goto, blockG_panic, jumpG_normal, jumpG_ret, jumpG_exit, jumpG_panic]
        | (refine GW_region' [] (by kernel_rfl) ?_; intro Q hQ hP; simp [hC, hY]; (first | refine hQ _ _ _ _ ?_ | refine hP _ _ (fun _ => ?_)); clear hQ hP Q)
        | (refine GW_draw' [] follows (by kernel_rfl) (by kernel_rfl) ?_; intro Q hQ hP; simp [hC, hY]; (first | refine hQ _ _ _ _ (by kernel_rfl) ?_ | refine hP _ _ (by kernel_rfl) (fun _ => ?_)); clear hQ hP Q)
        | refine GW_block ?_
        | refine GW_ret ?_
        | refine GW_skip ?_
        | refine GW_exit ?_
        | refine GW_goto ?_
        | refine GW_label ?_
        | simp only [blockG_exit]
        | (refine GW_cond (by simp; rfl) ?_ ?_ <;> (intro hb; first | (exfalso; exact absurd hb (by decide)) | skip)))
      refine ⟨.inl rfl, by simp [Tryd.results68], fun k hk => ?_⟩
      have hk3 : ¬ k = 316 := fun e => hk (e ▸ puHp_free n d g m x0 x1 x2 316 (by omega))
      by_cases e6 : k = 256
      · subst e6; simp [updL, puHp, puL]
      · simp [updL, puHp, puL, hk3, e6]
set_option maxHeartbeats 1000000 in
theorem pu1_bad0 (n d g m x0 x1 x2 : Int) (h : ¬ (inB x0 ∧ inB x1 ∧ inB x2)) :
    Fun Tryd.prog G1 68 [.pointer (some ⟨232, 0, none⟩), .pointer (some ⟨200, 0, none⟩), .pointer (some ⟨208, 0, none⟩), .pointer (some ⟨216, 0, none⟩), .pointer (some ⟨224, 0, none⟩), .pointer (some ⟨256, 0, none⟩)].toArray (puHp n d g m x0 x1 x2) [200, 208, 216, 224, 232, 256]
      (.pan (erV 2)) := by
  have hp := psum_bad x0 x1 x2 h
  refine fun_of (B := 300) G1F (fun k hk => hpL_low (by simp [puL]) hk) Tryd.func68 rfl Tryd.call68 ?_ ?_ trivial (by simp [Tryd.ntmps68]) (by omega) ?_ ?_
  · rw [puHp_rst]; simp [puHp, puL, dom]
  · rw [puHp_rst]; exact puHp_closed n d g m x0 x1 x2 _
  · rw [puHp_rst]; exact puHp_free n d g m x0 x1 x2
  · intro C hC hC0 hY
    rw [puHp_rst] at hC0 ⊢
    repeat' (first
      | refine GW_seq ?_
      | simp only [List.length_cons, List.length_nil, Nat.reduceAdd, Nat.reduceMul, thenG_normal, thenG_ret, thenG_exit, thenG_goto, thenG_panic, blockG_normal, blockG_ret, blockG_goto, blockG_panic, jumpG_normal, jumpG_ret, jumpG_exit, jumpG_panic]
      | (refine GW_region' [1000069] (by kernel_rfl) ?_; intro Q hQ hP; simp [hC, hY, puHp, puL, vb, ib]; (repeat (first | ((refine callP_of hp ?_); try simp [hC, hY, puHp, puL, vb, ib]))); (first | refine hQ _ _ _ _ ?_ | refine hP _ _ (fun _ => ?_)); clear hQ hP Q)
      | (refine GW_draw' [1000069] follows (by kernel_rfl) (by kernel_rfl) ?_; intro Q hQ hP; simp [hC, hY, puHp, puL, vb, ib]; (repeat (first | ((refine callP_of hp ?_); try simp [hC, hY, puHp, puL, vb, ib]))); (first | refine hQ _ _ _ _ (by kernel_rfl) ?_ | refine hP _ _ (by kernel_rfl) (fun _ => ?_)); clear hQ hP Q)
      | refine GW_block ?_
      | refine GW_ret ?_
      | refine GW_skip ?_
      | refine GW_exit ?_
      | refine GW_goto ?_
      | refine GW_label ?_
      | simp only [blockG_exit]
      | (refine GW_cond (by simp; rfl) ?_ ?_ <;> (intro hb; first | (exfalso; exact absurd hb (by decide)) | skip)))
    refine ⟨rfl, fun k hk => ?_⟩
    have hk3 : k < 300 := Classical.byContradiction fun h => hk (puHp_free n d g m x0 x1 x2 k (by omega))
    first | rfl | (simp (disch := omega) only [upd_far]; rfl)
theorem pu1_bad1 (n d g m x0 x1 x2 : Int) (h0 : inB x0) (h1 : inB x1) (h2 : inB x2) (he : chkE n d g m x0 (x0 * x0 + x1 * x1 + x2 * x2) ≠ 0) :
    Fun Tryd.prog G1 68 [.pointer (some ⟨232, 0, none⟩), .pointer (some ⟨200, 0, none⟩), .pointer (some ⟨208, 0, none⟩), .pointer (some ⟨216, 0, none⟩), .pointer (some ⟨224, 0, none⟩), .pointer (some ⟨256, 0, none⟩)].toArray (puHp n d g m x0 x1 x2) [200, 208, 216, 224, 232, 256]
      (.pan (erV (chkE n d g m x0 (x0 * x0 + x1 * x1 + x2 * x2)))) := by
  refine fun_of (B := 300) G1F (fun k hk => hpL_low (by simp [puL]) hk) Tryd.func68 rfl Tryd.call68 ?_ ?_ trivial (by simp [Tryd.ntmps68]) (by omega) ?_ ?_
  · rw [puHp_rst]; simp [puHp, puL, dom]
  · rw [puHp_rst]; exact puHp_closed n d g m x0 x1 x2 _
  · rw [puHp_rst]; exact puHp_free n d g m x0 x1 x2
  · intro C hC hC0 hY
    rw [puHp_rst] at hC0 ⊢
    generalize hr : x0 * x0 + x1 * x1 + x2 * x2 = r at *
    have hsum := psum_ok x0 x1 x2 h0 h1 h2
    rw [hr] at hsum
    repeat' (first
      | refine GW_seq ?_
      | simp only [List.length_cons, List.length_nil, Nat.reduceAdd, Nat.reduceMul, thenG_normal, thenG_ret, thenG_exit, thenG_goto, thenG_panic, blockG_normal, blockG_ret, blockG_goto, blockG_panic, jumpG_normal, jumpG_ret, jumpG_exit, jumpG_panic]
      | (refine GW_region' [1000069] (by kernel_rfl) ?_; intro Q hQ hP; simp [hC, hY, puHp, puL, vb, ib]; (repeat (first | ((refine callP_of hsum ?_); try simp [hC, hY, puHp, puL, vb, ib]))); (first | refine hQ _ _ _ _ ?_ | refine hP _ _ (fun _ => ?_)); clear hQ hP Q)
      | (refine GW_draw' [1000069] follows (by kernel_rfl) (by kernel_rfl) ?_; intro Q hQ hP; simp [hC, hY, puHp, puL, vb, ib]; (repeat (first | ((refine callP_of hsum ?_); try simp [hC, hY, puHp, puL, vb, ib]))); (first | refine hQ _ _ _ _ (by kernel_rfl) ?_ | refine hP _ _ (by kernel_rfl) (fun _ => ?_)); clear hQ hP Q)
      | refine GW_block ?_
      | refine GW_ret ?_
      | refine GW_skip ?_
      | refine GW_exit ?_
      | refine GW_goto ?_
      | refine GW_label ?_
      | simp only [blockG_exit]
      | (refine GW_cond (by simp; rfl) ?_ ?_ <;> (intro hb; first | (exfalso; exact absurd hb (by decide)) | skip)))
    refine GW_region' [70] (by kernel_rfl) ?_; intro Q hQ hP; simp [hC, hY]
    refine heapK_of (parts_new x0 x1 x2 340 (by omega)) (by simp) (fun _ _ => rfl) (by simp [Res.at]) ?_
    simp
    refine hQ _ _ _ _ ?_; clear hQ hP Q
    repeat' (first
      | refine GW_seq ?_
      | simp only [List.length_cons, List.length_nil, Nat.reduceAdd, Nat.reduceMul, thenG_normal, thenG_ret, thenG_exit, thenG_goto, thenG_panic, blockG_normal, blockG_ret, blockG_goto, blockG_panic, jumpG_normal, jumpG_ret, jumpG_exit, jumpG_panic]
      | (refine GW_region' [] (by kernel_rfl) ?_; intro Q hQ hP; simp [hC, hY]; (first | refine hQ _ _ _ _ ?_ | refine hP _ _ (fun _ => ?_)); clear hQ hP Q)
      | (refine GW_draw' [] follows (by kernel_rfl) (by kernel_rfl) ?_; intro Q hQ hP; simp [hC, hY]; (first | refine hQ _ _ _ _ (by kernel_rfl) ?_ | refine hP _ _ (by kernel_rfl) (fun _ => ?_)); clear hQ hP Q)
      | refine GW_block ?_
      | refine GW_ret ?_
      | refine GW_skip ?_
      | refine GW_exit ?_
      | refine GW_goto ?_
      | refine GW_label ?_
      | simp only [blockG_exit]
      | (refine GW_cond (by simp; rfl) ?_ ?_ <;> (intro hb; first | (exfalso; exact absurd hb (by decide)) | skip)))
    refine GW_rangeP (erV (chkE n d g m x0 r)) (f := 94) (rs := [340]) (xs := partsXs x0 x1 x2) (caps := #[.pointer (some ⟨340, 0, none⟩)]) (by simp) ?_ (by simp [partsXs]) (by simp [Tryd.ntmps68]) puT (puX n d g m x0 x1 x2 r 0 0 0) 400 0 (by simp [partsXs]) ?_ ?_ ?_ ?_ ?_ ?_
    · rw [hC]
      intro pv
      refine IterX.cast (IterX.rn (fun k => if k = 100 then 340 else k) G1F (fun k hk => hpL_low (by simp) hk) (rs := [100]) ?_ (parts_itP x0 x1 x2 pv)) (by simp [ren0]) (by simp)
      refine ⟨fun k hk => ?_, ?_, ?_, ?_⟩
      · have e1 : ¬ k = 100 := by omega
        have e2 : ¬ k = 200 := by omega
        have e3 : ¬ k = 208 := by omega
        have e4 : ¬ k = 216 := by omega
        have e5 : ¬ k = 224 := by omega
        have e6 : ¬ k = 232 := by omega
        have e7 : ¬ k = 256 := by omega
        have e8 : ¬ k = 316 := by omega
        have e9 : ¬ k = 340 := by omega
        simp [e1, e2, e3, e4, e5, e6, e7, e8, e9, pHp]
      · simp
      · simp [pHp, vb, Blk.rn, renF, ren0]
      · simp
    · refine weakL _ 400 hC G1F (m0 := puL n d g m x0 x1 x2 (vb 0 0 0)) hC0 (by omega) ?_ ?_ ?_
      · simp [idsV, idsA, idsF, ids0, dom]
      · simp [ids_lit, idsF, ids0, vb, ib]
      · simp [vb, ib, puL]
    · simp [puX, dom]
    · intro i hi t
      refine tsL_ids ?_ t
      simp [idsV, idsA, idsF, ids0, dom, puX]
    · intro i x hi hx C1 l hC1 hh1 hY1
      omega
    · intro c hc
      obtain rfl : c = 0 := by omega
      refine ⟨rfl, fun k hk => ?_⟩
      have hk3 : ¬ k = 316 := fun e => hk (e ▸ puHp_free n d g m x0 x1 x2 316 (by omega))
      simp [puX, puHp, puL, hk3]
    · refine ⟨#[.int .i64 0, .int .i64 x0], by simp [partsXs], ?_⟩
      intro C1 l hC1 hh1 hY1
      have hCC := hC
      have hC1' : C1.G = G1 := hC1.trans hC
      replace hC := hC1'
      replace hY := hY1
      unfold puX
      repeat' (first
        | refine GW_seq ?_
        | simp only [List.length_cons, List.length_nil, Nat.reduceAdd, Nat.reduceMul, thenG_normal, thenG_ret, thenG_exit, thenG_goto, thenG_panic, blockG_normal, blockG_ret, blockG_goto, blockG_panic, jumpG_normal, jumpG_ret, jumpG_exit, jumpG_panic]
        | (refine GW_region' [] (by kernel_rfl) ?_; intro Q hQ hP; simp [hC, hY, roundTs, puT]; (first | refine hQ _ _ _ _ ?_ | refine hP _ _ (fun _ => ?_)); clear hQ hP Q)
        | (refine GW_draw' [] follows (by kernel_rfl) (by kernel_rfl) ?_; intro Q hQ hP; simp [hC, hY, roundTs, puT]; (first | refine hQ _ _ _ _ (by kernel_rfl) ?_ | refine hP _ _ (by kernel_rfl) (fun _ => ?_)); clear hQ hP Q)
        | refine GW_block ?_
        | refine GW_ret ?_
        | refine GW_skip ?_
        | refine GW_exit ?_
        | refine GW_goto ?_
        | refine GW_label ?_
        | simp only [blockG_exit]
        | (refine GW_cond (by simp; rfl) ?_ ?_ <;> (intro hb; first | (exfalso; exact absurd hb (by decide)) | skip)))
      intro C2 hC2 hh2 hY2
      replace hC : C2.G = G1 := hC2.trans hCC
      replace hY := hY2
      repeat' (first
        | refine GW_seq ?_
        | simp only [List.length_cons, List.length_nil, Nat.reduceAdd, Nat.reduceMul, thenG_normal, thenG_ret, thenG_exit, thenG_goto, thenG_panic, blockG_normal, blockG_ret, blockG_goto, blockG_panic, jumpG_normal, jumpG_ret, jumpG_exit, jumpG_panic]
        | (refine GW_region' [1000071] (by kernel_rfl) ?_; intro Q hQ hP; simp [hC, hY, roundTs, puT, vb, ib]; (repeat (first | ((refine callP_of (one_bad _ _ _ _ _ _ he) ?_); try simp [hC, hY, roundTs, puT, vb, ib]))); (first | refine hQ _ _ _ _ ?_ | refine hP _ _ (fun _ => ?_)); clear hQ hP Q)
        | (refine GW_draw' [1000071] follows (by kernel_rfl) (by kernel_rfl) ?_; intro Q hQ hP; simp [hC, hY, roundTs, puT, vb, ib]; (repeat (first | ((refine callP_of (one_bad _ _ _ _ _ _ he) ?_); try simp [hC, hY, roundTs, puT, vb, ib]))); (first | refine hQ _ _ _ _ (by kernel_rfl) ?_ | refine hP _ _ (by kernel_rfl) (fun _ => ?_)); clear hQ hP Q)
        | refine GW_block ?_
        | refine GW_ret ?_
        | refine GW_skip ?_
        | refine GW_exit ?_
        | refine GW_goto ?_
        | refine GW_label ?_
        | simp only [blockG_exit]
        | (refine GW_cond (by simp; rfl) ?_ ?_ <;> (intro hb; first | (exfalso; exact absurd hb (by decide)) | skip)))
      refine ⟨rfl, fun t => ?_, rfl, fun k hk => ?_⟩
      · refine tsL_ids ?_ t
        simp [idsV, idsA, idsF, ids0, dom]
      · have hk3 : ¬ k = 316 := fun e => hk (e ▸ puHp_free n d g m x0 x1 x2 316 (by omega))
        simp [puHp, puL, hk3]
theorem ppull_ok (n d g m x0 x1 x2 : Int) (h0 : inB x0) (h1 : inB x1) (h2 : inB x2) (k0 : PIn n d g m x0 (x0 * x0 + x1 * x1 + x2 * x2)) (k1 : PIn n d g m x1 (x0 * x0 + x1 * x1 + x2 * x2)) (k2 : PIn n d g m x2 (x0 * x0 + x1 * x1 + x2 * x2)) : Ret Tryd.prog G1 33 #[.int .i64 n, .int .i64 d, .int .i64 g, .int .i64 m, vv x0 x1 x2] (.tuple #[vv (pullV n d g m x0 (x0 * x0 + x1 * x1 + x2 * x2)) (pullV n d g m x1 (x0 * x0 + x1 * x1 + x2 * x2)) (pullV n d g m x2 (x0 * x0 + x1 * x1 + x2 * x2)), .int .i64 0]) := by
  refine ret_of G1F Tryd.func33 rfl Tryd.call33 (by simp [vv]) (by simp [vv]) (by simp [Tryd.ntmps33]) ?_
  intro C hC hC0 hY
  repeat' (first
    | refine GW_seq ?_
    | simp only [List.length_cons, List.length_nil, Nat.reduceAdd, Nat.reduceMul, thenG_normal, thenG_ret, thenG_exit, thenG_goto, thenG_panic, blockG_normal, blockG_ret, blockG_goto, blockG_panic, jumpG_normal, jumpG_ret, jumpG_exit, jumpG_panic]
    | (refine GW_region' [67] (by kernel_rfl) ?_; intro Q hQ hP; simp [hC, hY, vv, vb, ib]; (repeat (first | ((refine heapK_of (hp' := puHp n d g m x0 x1 x2) (ptold_ret (fun k hk => hpL_low (by simp [puL]) hk) (by simp) rfl (by simp) (pu1_ok n d g m x0 x1 x2 h0 h1 h2 k0 k1 k2)) (by simp [puHp, puL, vb, ib]) (fun k hk => hpL_low (by simp [puL]) hk) trivial ?_); try simp [hC, hY, vv, vb, ib]))); (first | refine hQ _ _ _ _ ?_ | refine hP _ _ (fun _ => ?_)); clear hQ hP Q)
    | (refine GW_draw' [67] follows (by kernel_rfl) (by kernel_rfl) ?_; intro Q hQ hP; simp [hC, hY, vv, vb, ib]; (repeat (first | ((refine heapK_of (hp' := puHp n d g m x0 x1 x2) (ptold_ret (fun k hk => hpL_low (by simp [puL]) hk) (by simp) rfl (by simp) (pu1_ok n d g m x0 x1 x2 h0 h1 h2 k0 k1 k2)) (by simp [puHp, puL, vb, ib]) (fun k hk => hpL_low (by simp [puL]) hk) trivial ?_); try simp [hC, hY, vv, vb, ib]))); (first | refine hQ _ _ _ _ (by kernel_rfl) ?_ | refine hP _ _ (by kernel_rfl) (fun _ => ?_)); clear hQ hP Q)
    | refine GW_block ?_
    | refine GW_ret ?_
    | refine GW_skip ?_
    | refine GW_exit ?_
    | refine GW_goto ?_
    | refine GW_label ?_
    | simp only [blockG_exit]
    | (refine GW_cond (by simp; rfl) ?_ ?_ <;> (intro hb; first | (exfalso; exact absurd hb (by decide)) | skip)))
  refine ⟨.inr trivial, ?_⟩
  simp [Tryd.results33, vv]
theorem ppull_bad0 (n d g m x0 x1 x2 : Int) (h : ¬ (inB x0 ∧ inB x1 ∧ inB x2)) : Ret Tryd.prog G1 33 #[.int .i64 n, .int .i64 d, .int .i64 g, .int .i64 m, vv x0 x1 x2] (.tuple #[vv 0 0 0, .int .i64 2]) := by
  refine ret_of G1F Tryd.func33 rfl Tryd.call33 (by simp [vv]) (by simp [vv]) (by simp [Tryd.ntmps33]) ?_
  intro C hC hC0 hY
  repeat' (first
    | refine GW_seq ?_
    | simp only [List.length_cons, List.length_nil, Nat.reduceAdd, Nat.reduceMul, thenG_normal, thenG_ret, thenG_exit, thenG_goto, thenG_panic, blockG_normal, blockG_ret, blockG_goto, blockG_panic, jumpG_normal, jumpG_ret, jumpG_exit, jumpG_panic]
    | (refine GW_region' [67] (by kernel_rfl) ?_; intro Q hQ hP; simp [hC, hY, vv, vb, ib]; (repeat (first | ((refine heapK_of (hp' := puHp n d g m x0 x1 x2) (ptold_pan (fun k hk => hpL_low (by simp [puL]) hk) (by simp) rfl (by simp) (pu1_bad0 n d g m x0 x1 x2 h)) (by simp [puHp, puL, vb, ib]) (fun k hk => hpL_low (by simp [puL]) hk) trivial ?_); try simp [hC, hY, vv, vb, ib]))); (first | refine hQ _ _ _ _ ?_ | refine hP _ _ (fun _ => ?_)); clear hQ hP Q)
    | (refine GW_draw' [67] follows (by kernel_rfl) (by kernel_rfl) ?_; intro Q hQ hP; simp [hC, hY, vv, vb, ib]; (repeat (first | ((refine heapK_of (hp' := puHp n d g m x0 x1 x2) (ptold_pan (fun k hk => hpL_low (by simp [puL]) hk) (by simp) rfl (by simp) (pu1_bad0 n d g m x0 x1 x2 h)) (by simp [puHp, puL, vb, ib]) (fun k hk => hpL_low (by simp [puL]) hk) trivial ?_); try simp [hC, hY, vv, vb, ib]))); (first | refine hQ _ _ _ _ (by kernel_rfl) ?_ | refine hP _ _ (by kernel_rfl) (fun _ => ?_)); clear hQ hP Q)
    | refine GW_block ?_
    | refine GW_ret ?_
    | refine GW_skip ?_
    | refine GW_exit ?_
    | refine GW_goto ?_
    | refine GW_label ?_
    | simp only [blockG_exit]
    | (refine GW_cond (by simp; rfl) ?_ ?_ <;> (intro hb; first | (exfalso; exact absurd hb (by decide)) | skip)))
  refine ⟨.inr trivial, ?_⟩
  simp [Tryd.results33, vv]
theorem ppull_bad1 (n d g m x0 x1 x2 : Int) (h0 : inB x0) (h1 : inB x1) (h2 : inB x2) (he : chkE n d g m x0 (x0 * x0 + x1 * x1 + x2 * x2) ≠ 0) : Ret Tryd.prog G1 33 #[.int .i64 n, .int .i64 d, .int .i64 g, .int .i64 m, vv x0 x1 x2] (.tuple #[vv 0 0 0, .int .i64 (chkE n d g m x0 (x0 * x0 + x1 * x1 + x2 * x2))]) := by
  refine ret_of G1F Tryd.func33 rfl Tryd.call33 (by simp [vv]) (by simp [vv]) (by simp [Tryd.ntmps33]) ?_
  intro C hC hC0 hY
  have hcb : (chkE n d g m x0 (x0 * x0 + x1 * x1 + x2 * x2) != 0) = true := by simpa using he
  repeat' (first
    | refine GW_seq ?_
    | simp only [List.length_cons, List.length_nil, Nat.reduceAdd, Nat.reduceMul, thenG_normal, thenG_ret, thenG_exit, thenG_goto, thenG_panic, blockG_normal, blockG_ret, blockG_goto, blockG_panic, jumpG_normal, jumpG_ret, jumpG_exit, jumpG_panic]
    | (refine GW_region' [67] (by kernel_rfl) ?_; intro Q hQ hP; simp [hC, hY, vv, vb, ib, hcb]; (repeat (first | ((refine heapK_of (hp' := puHp n d g m x0 x1 x2) (ptold_pan (fun k hk => hpL_low (by simp [puL]) hk) (by simp) rfl (by simp) (pu1_bad1 n d g m x0 x1 x2 h0 h1 h2 he)) (by simp [puHp, puL, vb, ib]) (fun k hk => hpL_low (by simp [puL]) hk) trivial ?_); try simp [hC, hY, vv, vb, ib, hcb]))); (first | refine hQ _ _ _ _ ?_ | refine hP _ _ (fun _ => ?_)); clear hQ hP Q)
    | (refine GW_draw' [67] follows (by kernel_rfl) (by kernel_rfl) ?_; intro Q hQ hP; simp [hC, hY, vv, vb, ib, hcb]; (repeat (first | ((refine heapK_of (hp' := puHp n d g m x0 x1 x2) (ptold_pan (fun k hk => hpL_low (by simp [puL]) hk) (by simp) rfl (by simp) (pu1_bad1 n d g m x0 x1 x2 h0 h1 h2 he)) (by simp [puHp, puL, vb, ib]) (fun k hk => hpL_low (by simp [puL]) hk) trivial ?_); try simp [hC, hY, vv, vb, ib, hcb]))); (first | refine hQ _ _ _ _ (by kernel_rfl) ?_ | refine hP _ _ (by kernel_rfl) (fun _ => ?_)); clear hQ hP Q)
    | refine GW_block ?_
    | refine GW_ret ?_
    | refine GW_skip ?_
    | refine GW_exit ?_
    | refine GW_goto ?_
    | refine GW_label ?_
    | simp only [blockG_exit]
    | (refine GW_cond (by simp; rfl) ?_ ?_ <;> (intro hb; first | (exfalso; exact absurd hb (by decide)) | skip)))
  refine ⟨.inr trivial, ?_⟩
  simp [Tryd.results33, vv]
end Go.Gy
