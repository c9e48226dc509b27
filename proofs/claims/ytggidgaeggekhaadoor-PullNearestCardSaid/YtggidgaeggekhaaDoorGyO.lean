/-
  Contracts of the document's wide numbers (gyreref02).
  Conditions: none.
-/
import Derived.Test.YtggidgaeggekhaaDoorGyN
import Derived.Test.YtggidgaeggekhaaDoorGyP
namespace Go.Gy
set_option linter.unusedSimpArgs false
set_option linter.unusedVariables false
open Go Go.RowKit Go.Proofs
def lsB : Blk := ⟨#[.int .u64 0, .int .u64 0, .int .u64 0, .int .u64 9223372036854775808], 24⟩
/-- The package's variables that are read. -/
def G0L : List (Nat × Blk) :=
  (1, lsB) ::
  []
def G0 : Hp := hpL (fun _ => none) G0L
theorem G0_mem {k : Nat} {b : Blk} (h : G0 k = some b) : (k, b) ∈ G0L := (hpL_mem h).resolve_right (fun h => nomatch h)
theorem G0F : GFlat G0 := fun k b h => by
  have h1 : ∀ p ∈ G0L, p.1 < 100 ∧ ∀ x ∈ p.2.c, flatF x = true := by simp [G0L, lsB]
  exact h1 _ (G0_mem h)
@[simp] theorem G0_big (k : Nat) (h : 100 ≤ k) : G0 k = none := by
  cases hb : G0 k with
  | none => rfl
  | some b => have := (G0F k b hb).1; omega
theorem G0_dom {k : Nat} (h : dom G0 k) : k < 100 := by
  refine Classical.byContradiction fun hk => ?_
  exact h (G0_big k (by omega))
theorem G0_closed (D : Nat → Prop) (k : Nat) (b : Blk) (h : G0 k = some b) : b.ids D := fun x hx => flatF_ids ((G0F k b h).2 x hx)
theorem G0_rst (rs : List Nat) : rst G0 rs = G0 := rst_G G0F rs
@[simp] theorem G0_least : G0 1 = some lsB := by simp [G0, G0L]
theorem G0W : ∃ W, GOK G0 W := ⟨{ (default : World) with heap := Array.ofFn (n := 100) fun k => match G0 k.1 with | some b => .cells b.c b.T (0, 0) | none => .cells #[] 0 (0, 0) }, fun k b h => by
  have hk := (G0F k b h).1
  simp [hk, h]⟩

def wd (z : Int) : Value := .agg #[.int .u64 (wi z 0), .int .u64 (wi z 1), .int .u64 (wi z 2), .int .u64 (wi z 3)]
@[simp] theorem wd_eq (z : Int) : wd z = .agg #[.int .u64 (wi z 0), .int .u64 (wi z 1), .int .u64 (wi z 2), .int .u64 (wi z 3)] := rfl
def dg (z : Int) : Value := .agg #[.int .u64 (di z 0), .int .u64 (di z 1), .int .u64 (di z 2), .int .u64 (di z 3), .int .u64 (di z 4), .int .u64 (di z 5), .int .u64 (di z 6), .int .u64 (di z 7)]
@[simp] theorem dg_eq (z : Int) : dg z = .agg #[.int .u64 (di z 0), .int .u64 (di z 1), .int .u64 (di z 2), .int .u64 (di z 3), .int .u64 (di z 4), .int .u64 (di z 5), .int .u64 (di z 6), .int .u64 (di z 7)] := rfl
def ng (z : Int) : Bool := decide (9223372036854775808 ≤ wi z 3)

theorem dw0 (z : Int) : wi z 0 % 4294967296 = di z 0 := by simp only [wi, di]; omega
theorem dw1 (z : Int) : wi z 0 / 4294967296 = di z 1 := by simp only [wi, di]; omega
theorem dw2 (z : Int) : wi z 1 % 4294967296 = di z 2 := by simp only [wi, di]; omega
theorem dw3 (z : Int) : wi z 1 / 4294967296 = di z 3 := by simp only [wi, di]; omega
theorem dw4 (z : Int) : wi z 2 % 4294967296 = di z 4 := by simp only [wi, di]; omega
theorem dw5 (z : Int) : wi z 2 / 4294967296 = di z 5 := by simp only [wi, di]; omega
theorem dw6 (z : Int) : wi z 3 % 4294967296 = di z 6 := by simp only [wi, di]; omega
theorem dw7 (z : Int) : wi z 3 / 4294967296 = di z 7 := by simp only [wi, di]; omega
theorem wd0 (z : Int) : di z 1 * 4294967296 + di z 0 = wi z 0 := by rw [← dw0, ← dw1]; omega
theorem wd1 (z : Int) : di z 3 * 4294967296 + di z 2 = wi z 1 := by rw [← dw2, ← dw3]; omega
theorem wd2 (z : Int) : di z 5 * 4294967296 + di z 4 = wi z 2 := by rw [← dw4, ← dw5]; omega
theorem wd3 (z : Int) : di z 7 * 4294967296 + di z 6 = wi z 3 := by rw [← dw6, ← dw7]; omega
theorem wim (z : Int) (k : Nat) : wi z k % 18446744073709551616 = wi z k := Int.emod_emod_of_dvd _ (Int.dvd_refl _)

@[simp] theorem wi_tmod (z b : Int) (k : Nat) : (wi z k).tmod b = wi z k % b := Int.tmod_eq_emod_of_nonneg (wi_ge z k)
@[simp] theorem wi_tdiv (z b : Int) (k : Nat) : (wi z k).tdiv b = wi z k / b := Int.tdiv_eq_ediv_of_nonneg (wi_ge z k)
@[simp] theorem wi_div32 (z : Int) (k : Nat) : (wi z k / 4294967296) % 18446744073709551616 = wi z k / 4294967296 := by have := wi_ge z k; have := wi_lt z k; omega

theorem low2_ret (z : Int) : Ret Tryd.prog G0 62 #[wd z] (.bool (ng z)) := by
  refine ret_of G0F Tryd.func62 rfl Tryd.call62 rfl (by simp) (by simp [Tryd.ntmps62]) ?_
  intro C hC _ hY
  repeat' (first
    | refine GW_seq ?_
    | simp only [List.length_cons, List.length_nil, Nat.reduceAdd, Nat.reduceMul, thenG_normal, thenG_ret, thenG_exit, thenG_goto, thenG_panic, blockG_normal, blockG_ret, blockG_goto, blockG_panic, jumpG_normal, jumpG_ret, jumpG_exit, jumpG_panic]
    | (refine GW_region' [] (by kernel_rfl) ?_; intro Q hQ hP; simp [hC, hY]; (first | refine hQ _ _ _ _ ?_ | refine hP _ _ (fun _ => ?_)); clear hQ hP Q)
    | (refine GW_draw' [] follows (by kernel_rfl) (by kernel_rfl) ?_; intro Q hQ hP; simp [hC, hY]; (first | refine hQ _ _ _ _ (by kernel_rfl) ?_ | refine hP _ _ (by kernel_rfl) (fun _ => ?_)); clear hQ hP Q)
    | refine GW_block ?_
    | refine GW_ret ?_
    | refine GW_skip ?_
    | refine GW_exit ?_
    | refine GW_goto ?_
    | refine GW_label ?_
    | simp only [blockG_exit]
    | (refine GW_cond (by simp; rfl) ?_ ?_ <;> (intro hb; first | (exfalso; exact absurd hb (by decide)) | skip)))
  refine ⟨.inr trivial, ?_⟩
  simp [Tryd.results62, ng]
  have := wi_ge z 3
  have := wi_lt z 3
  rw [Int.fdiv_eq_ediv_of_nonneg _ (by omega)]
  rw [Bool.eq_iff_iff]
  simp
  omega
@[simp] theorem low2 (z : Int) (K : Value → Prop) : callK Tryd.prog G0 62 #[.agg #[.int .u64 (wi z 0), .int .u64 (wi z 1), .int .u64 (wi z 2), .int .u64 (wi z 3)]] K ↔ K (.bool (ng z)) := callK_iff G0W (by kernel_rfl) (low2_ret z)

theorem digits_ret (z : Int) : Ret Tryd.prog G0 65 #[wd z] (dg z) := by
  refine ret_of G0F Tryd.func65 rfl Tryd.call65 (by simp) (by simp) (by simp [Tryd.ntmps65]) ?_
  intro C hC _ hY
  repeat' (first
    | refine GW_seq ?_
    | simp only [List.length_cons, List.length_nil, Nat.reduceAdd, Nat.reduceMul, thenG_normal, thenG_ret, thenG_exit, thenG_goto, thenG_panic, blockG_normal, blockG_ret, blockG_goto, blockG_panic, jumpG_normal, jumpG_ret, jumpG_exit, jumpG_panic]
    | (refine GW_region' [] (by kernel_rfl) ?_; intro Q hQ hP; simp [hC, hY, dw0, dw1, dw2, dw3, dw4, dw5, dw6, dw7]; (first | refine hQ _ _ _ _ ?_ | refine hP _ _ (fun _ => ?_)); clear hQ hP Q)
    | (refine GW_draw' [] follows (by kernel_rfl) (by kernel_rfl) ?_; intro Q hQ hP; simp [hC, hY, dw0, dw1, dw2, dw3, dw4, dw5, dw6, dw7]; (first | refine hQ _ _ _ _ (by kernel_rfl) ?_ | refine hP _ _ (by kernel_rfl) (fun _ => ?_)); clear hQ hP Q)
    | refine GW_block ?_
    | refine GW_ret ?_
    | refine GW_skip ?_
    | refine GW_exit ?_
    | refine GW_goto ?_
    | refine GW_label ?_
    | simp only [blockG_exit]
    | (refine GW_cond (by simp; rfl) ?_ ?_ <;> (intro hb; first | (exfalso; exact absurd hb (by decide)) | skip)))
  refine ⟨.inr trivial, ?_⟩
  simp [Tryd.results65, dw0, dw1, dw2, dw3, dw4, dw5, dw6, dw7]
@[simp] theorem digits (z : Int) (K : Value → Prop) : callK Tryd.prog G0 65 #[.agg #[.int .u64 (wi z 0), .int .u64 (wi z 1), .int .u64 (wi z 2), .int .u64 (wi z 3)]] K ↔ K (dg z) := callK_iff G0W (by kernel_rfl) (digits_ret z)

theorem wide2_ret (z : Int) : Ret Tryd.prog G0 61 #[dg z] (wd z) := by
  refine ret_of G0F Tryd.func61 rfl Tryd.call61 (by simp) (by simp) (by simp [Tryd.ntmps61]) ?_
  intro C hC _ hY
  repeat' (first
    | refine GW_seq ?_
    | simp only [List.length_cons, List.length_nil, Nat.reduceAdd, Nat.reduceMul, thenG_normal, thenG_ret, thenG_exit, thenG_goto, thenG_panic, blockG_normal, blockG_ret, blockG_goto, blockG_panic, jumpG_normal, jumpG_ret, jumpG_exit, jumpG_panic]
    | (refine GW_region' [] (by kernel_rfl) ?_; intro Q hQ hP; simp [hC, hY]; (first | refine hQ _ _ _ _ ?_ | refine hP _ _ (fun _ => ?_)); clear hQ hP Q)
    | (refine GW_draw' [] follows (by kernel_rfl) (by kernel_rfl) ?_; intro Q hQ hP; simp [hC, hY]; (first | refine hQ _ _ _ _ (by kernel_rfl) ?_ | refine hP _ _ (by kernel_rfl) (fun _ => ?_)); clear hQ hP Q)
    | refine GW_block ?_
    | refine GW_ret ?_
    | refine GW_skip ?_
    | refine GW_exit ?_
    | refine GW_goto ?_
    | refine GW_label ?_
    | simp only [blockG_exit]
    | (refine GW_cond (by simp; rfl) ?_ ?_ <;> (intro hb; first | (exfalso; exact absurd hb (by decide)) | skip)))
  refine ⟨.inr trivial, ?_⟩
  simp [Tryd.results61, wd0, wd1, wd2, wd3, wim]
@[simp] theorem wide2 (z : Int) (K : Value → Prop) : callK Tryd.prog G0 61 #[Value.agg #[.int .u64 (di (z) 0), .int .u64 (di (z) 1), .int .u64 (di (z) 2), .int .u64 (di (z) 3), .int .u64 (di (z) 4), .int .u64 (di (z) 5), .int .u64 (di (z) 6), .int .u64 (di (z) 7)]] K ↔ K (wd z) := callK_iff G0W (by kernel_rfl) (wide2_ret z)

def plusSt (z y c : Int) (i : Nat) : GS :=
  ⟨tsL [(3, .pointer (some ⟨200, 0, none⟩)), (4, .pointer (some ⟨208, 0, none⟩)), (6, .pointer (some ⟨216, 0, none⟩)), (7, .int .i64 i), (2, .int .u64 (car z y c i))],
   hpL G0 [(200, ⟨#[.int .u64 (if 0 < i then di (z + y + c) 0 else di z 0), .int .u64 (if 1 < i then di (z + y + c) 1 else di z 1), .int .u64 (if 2 < i then di (z + y + c) 2 else di z 2), .int .u64 (if 3 < i then di (z + y + c) 3 else di z 3),
      .int .u64 (if 4 < i then di (z + y + c) 4 else di z 4), .int .u64 (if 5 < i then di (z + y + c) 5 else di z 5), .int .u64 (if 6 < i then di (z + y + c) 6 else di z 6), .int .u64 (if 7 < i then di (z + y + c) 7 else di z 7)], 60⟩),
     (208, ⟨#[.int .u64 (di y 0), .int .u64 (di y 1), .int .u64 (di y 2), .int .u64 (di y 3), .int .u64 (di y 4), .int .u64 (di y 5), .int .u64 (di y 6), .int .u64 (di y 7)], 60⟩),
     (216, ⟨#[.int .u64 0, .int .u64 0, .int .u64 0, .int .u64 0, .int .u64 0, .int .u64 0, .int .u64 0, .int .u64 0], 60⟩)], 300, 0⟩
theorem plus2_ret (z y c : Int) (h0 : 0 ≤ c) (h1 : c ≤ 1) : Ret Tryd.prog G0 64 #[dg z, dg y, .int .u64 c] (dg (z + y + c)) := by
  refine ret_of G0F Tryd.func64 rfl Tryd.call64 (by simp) (by simp) (by simp [Tryd.ntmps64]) ?_
  intro C hC hC0 hY
  repeat' (first
    | refine GW_seq ?_
    | simp only [List.length_cons, List.length_nil, Nat.reduceAdd, Nat.reduceMul, thenG_normal, thenG_ret, thenG_exit, thenG_goto, thenG_panic, blockG_normal, blockG_ret, blockG_goto, blockG_panic, jumpG_normal, jumpG_ret, jumpG_exit, jumpG_panic]
    | (refine GW_region' [] (by kernel_rfl) ?_; intro Q hQ hP; simp [hC, hY]; (first | refine hQ _ _ _ _ ?_ | refine hP _ _ (fun _ => ?_)); clear hQ hP Q)
    | (refine GW_draw' [] follows (by kernel_rfl) (by kernel_rfl) ?_; intro Q hQ hP; simp [hC, hY]; (first | refine hQ _ _ _ _ (by kernel_rfl) ?_ | refine hP _ _ (by kernel_rfl) (fun _ => ?_)); clear hQ hP Q)
    | refine GW_block ?_
    | refine GW_ret ?_
    | refine GW_skip ?_
    | refine GW_exit ?_
    | refine GW_goto ?_
    | refine GW_label ?_
    | simp only [blockG_exit]
    | (refine GW_cond (by simp; rfl) ?_ ?_ <;> (intro hb; first | (exfalso; exact absurd hb (by decide)) | skip)))
  refine GW_for 8 (plusSt z y c) ?_ ?_ ?_
  · refine weakL _ 300 hC G0F (m0 := []) hC0 (by omega) ?_ ?_ ?_
    · simp [idsV, idsA, idsF, ids0, dom, car_zero]
    · simp [Blk.ids, idsF, ids0]
    · simp
  · intro i hi
    have : i = 0 ∨ i = 1 ∨ i = 2 ∨ i = 3 ∨ i = 4 ∨ i = 5 ∨ i = 6 ∨ i = 7 := by omega
    have A := dplus z y c h0 h1
    have A' := dcar z y c h0 h1
    rcases this with rfl | rfl | rfl | rfl | rfl | rfl | rfl | rfl <;> unfold plusSt
    all_goals
      repeat' (first
        | refine GW_seq ?_
        | simp only [List.length_cons, List.length_nil, Nat.reduceAdd, Nat.reduceMul, thenG_normal, thenG_ret, thenG_exit, thenG_goto, thenG_panic, blockG_normal, blockG_ret, blockG_goto, blockG_panic, jumpG_normal, jumpG_ret, jumpG_exit, jumpG_panic]
        | (refine GW_region' [] (by kernel_rfl) ?_; intro Q hQ hP; simp [hC, hY]; (first | refine hQ _ _ _ _ ?_ | refine hP _ _ (fun _ => ?_)); clear hQ hP Q)
        | (refine GW_draw' [] follows (by kernel_rfl) (by kernel_rfl) ?_; intro Q hQ hP; simp [hC, hY]; (first | refine hQ _ _ _ _ (by kernel_rfl) ?_ | refine hP _ _ (by kernel_rfl) (fun _ => ?_)); clear hQ hP Q)
        | refine GW_block ?_
        | refine GW_ret ?_
        | refine GW_skip ?_
        | refine GW_exit ?_
        | refine GW_goto ?_
        | refine GW_label ?_
        | simp only [blockG_exit]
        | (refine GW_cond (by simp; rfl) ?_ ?_ <;> (intro hb; first | (exfalso; exact absurd hb (by decide)) | skip)))
    all_goals
      refine weakL _ 300 hC G0F (m0 := []) hC0 (by omega) ?_ ?_ ?_
      · simp [idsV, idsA, idsF, ids0, dom, A, A']
      · simp [Blk.ids, idsF, ids0, A, A']
      · simp
  · unfold plusSt
    repeat' (first
      | refine GW_seq ?_
      | simp only [List.length_cons, List.length_nil, Nat.reduceAdd, Nat.reduceMul, thenG_normal, thenG_ret, thenG_exit, thenG_goto, thenG_panic, blockG_normal, blockG_ret, blockG_goto, blockG_panic, jumpG_normal, jumpG_ret, jumpG_exit, jumpG_panic]
      | (refine GW_region' [] (by kernel_rfl) ?_; intro Q hQ hP; simp [hC, hY]; (first | refine hQ _ _ _ _ ?_ | refine hP _ _ (fun _ => ?_)); clear hQ hP Q)
      | (refine GW_draw' [] follows (by kernel_rfl) (by kernel_rfl) ?_; intro Q hQ hP; simp [hC, hY]; (first | refine hQ _ _ _ _ (by kernel_rfl) ?_ | refine hP _ _ (by kernel_rfl) (fun _ => ?_)); clear hQ hP Q)
      | refine GW_block ?_
      | refine GW_ret ?_
      | refine GW_skip ?_
      | refine GW_exit ?_
      | refine GW_goto ?_
      | refine GW_label ?_
      | simp only [blockG_exit]
      | (refine GW_cond (by simp; rfl) ?_ ?_ <;> (intro hb; first | (exfalso; exact absurd hb (by decide)) | skip)))
    refine ⟨.inr trivial, ?_⟩
    simp [Tryd.results64]
@[simp] theorem plus2 (z y c : Int) (h0 : 0 ≤ c) (h1 : c ≤ 1) (K : Value → Prop) : callK Tryd.prog G0 64 #[Value.agg #[.int .u64 (di (z) 0), .int .u64 (di (z) 1), .int .u64 (di (z) 2), .int .u64 (di (z) 3), .int .u64 (di (z) 4), .int .u64 (di (z) 5), .int .u64 (di (z) 6), .int .u64 (di (z) 7)], Value.agg #[.int .u64 (di (y) 0), .int .u64 (di (y) 1), .int .u64 (di (y) 2), .int .u64 (di (y) 3), .int .u64 (di (y) 4), .int .u64 (di (y) 5), .int .u64 (di (y) 6), .int .u64 (di (y) 7)], .int .u64 c] K ↔ K (dg (z + y + c)) := callK_iff G0W (by kernel_rfl) (plus2_ret z y c h0 h1)

theorem dnot (z : Int) (k : Nat) : 4294967295 - di z k = di (-z - 1) k := by
  unfold di
  generalize hM : (2 : Int) ^ (32 * k) = M
  have hp : 0 < M := hM ▸ pow32_pos k
  have e : (-z - 1) / M = -(z / M) - 1 := by
    have h1 := Int.emod_add_mul_ediv z M
    have h2 := Int.emod_nonneg z (b := M) (by omega)
    have h3 := Int.emod_lt_of_pos z hp
    have : -z - 1 = (M - 1 - z % M) + M * (-(z / M) - 1) := by rw [Int.mul_sub, Int.mul_neg]; omega
    rw [this, Int.add_mul_ediv_left _ _ (by omega), Int.ediv_eq_zero_of_lt (by omega) (by omega)]
    omega
  rw [e]
  omega
def notSt (z : Int) (i : Nat) : GS :=
  ⟨tsL [(1, .pointer (some ⟨200, 0, none⟩)), (2, .pointer (some ⟨208, 0, none⟩)), (3, .int .i64 i)],
   hpL G0 [(200, ⟨#[.int .u64 (if 0 < i then di (-z - 1) 0 else di z 0), .int .u64 (if 1 < i then di (-z - 1) 1 else di z 1), .int .u64 (if 2 < i then di (-z - 1) 2 else di z 2), .int .u64 (if 3 < i then di (-z - 1) 3 else di z 3),
      .int .u64 (if 4 < i then di (-z - 1) 4 else di z 4), .int .u64 (if 5 < i then di (-z - 1) 5 else di z 5), .int .u64 (if 6 < i then di (-z - 1) 6 else di z 6), .int .u64 (if 7 < i then di (-z - 1) 7 else di z 7)], 60⟩),
     (208, ⟨#[.int .u64 0, .int .u64 0, .int .u64 0, .int .u64 0, .int .u64 0, .int .u64 0, .int .u64 0, .int .u64 0], 60⟩)], 300, 0⟩
theorem not2_ret (z : Int) : Ret Tryd.prog G0 66 #[dg z] (dg (-z - 1)) := by
  refine ret_of G0F Tryd.func66 rfl Tryd.call66 (by simp) (by simp) (by simp [Tryd.ntmps66]) ?_
  intro C hC hC0 hY
  repeat' (first
    | refine GW_seq ?_
    | simp only [List.length_cons, List.length_nil, Nat.reduceAdd, Nat.reduceMul, thenG_normal, thenG_ret, thenG_exit, thenG_goto, thenG_panic, blockG_normal, blockG_ret, blockG_goto, blockG_panic, jumpG_normal, jumpG_ret, jumpG_exit, jumpG_panic]
    | (refine GW_region' [] (by kernel_rfl) ?_; intro Q hQ hP; simp [hC, hY]; (first | refine hQ _ _ _ _ ?_ | refine hP _ _ (fun _ => ?_)); clear hQ hP Q)
    | (refine GW_draw' [] follows (by kernel_rfl) (by kernel_rfl) ?_; intro Q hQ hP; simp [hC, hY]; (first | refine hQ _ _ _ _ (by kernel_rfl) ?_ | refine hP _ _ (by kernel_rfl) (fun _ => ?_)); clear hQ hP Q)
    | refine GW_block ?_
    | refine GW_ret ?_
    | refine GW_skip ?_
    | refine GW_exit ?_
    | refine GW_goto ?_
    | refine GW_label ?_
    | simp only [blockG_exit]
    | (refine GW_cond (by simp; rfl) ?_ ?_ <;> (intro hb; first | (exfalso; exact absurd hb (by decide)) | skip)))
  refine GW_for 8 (notSt z) ?_ ?_ ?_
  · refine weakL _ 300 hC G0F (m0 := []) hC0 (by omega) ?_ ?_ ?_
    · simp [idsV, idsA, idsF, ids0, dom]
    · simp [Blk.ids, idsF, ids0]
    · simp
  · intro i hi
    have : i = 0 ∨ i = 1 ∨ i = 2 ∨ i = 3 ∨ i = 4 ∨ i = 5 ∨ i = 6 ∨ i = 7 := by omega
    rcases this with rfl | rfl | rfl | rfl | rfl | rfl | rfl | rfl <;> unfold notSt
    all_goals
      repeat' (first
        | refine GW_seq ?_
        | simp only [List.length_cons, List.length_nil, Nat.reduceAdd, Nat.reduceMul, thenG_normal, thenG_ret, thenG_exit, thenG_goto, thenG_panic, blockG_normal, blockG_ret, blockG_goto, blockG_panic, jumpG_normal, jumpG_ret, jumpG_exit, jumpG_panic]
        | (refine GW_region' [] (by kernel_rfl) ?_; intro Q hQ hP; simp [hC, hY]; (first | refine hQ _ _ _ _ ?_ | refine hP _ _ (fun _ => ?_)); clear hQ hP Q)
        | (refine GW_draw' [] follows (by kernel_rfl) (by kernel_rfl) ?_; intro Q hQ hP; simp [hC, hY]; (first | refine hQ _ _ _ _ (by kernel_rfl) ?_ | refine hP _ _ (by kernel_rfl) (fun _ => ?_)); clear hQ hP Q)
        | refine GW_block ?_
        | refine GW_ret ?_
        | refine GW_skip ?_
        | refine GW_exit ?_
        | refine GW_goto ?_
        | refine GW_label ?_
        | simp only [blockG_exit]
        | (refine GW_cond (by simp; rfl) ?_ ?_ <;> (intro hb; first | (exfalso; exact absurd hb (by decide)) | skip)))
    all_goals
      refine weakL _ 300 hC G0F (m0 := []) hC0 (by omega) ?_ ?_ ?_
      · simp [idsV, idsA, idsF, ids0, dom]
      · simp [Blk.ids, idsF, ids0, dnot]
      · simp
  · unfold notSt
    repeat' (first
      | refine GW_seq ?_
      | simp only [List.length_cons, List.length_nil, Nat.reduceAdd, Nat.reduceMul, thenG_normal, thenG_ret, thenG_exit, thenG_goto, thenG_panic, blockG_normal, blockG_ret, blockG_goto, blockG_panic, jumpG_normal, jumpG_ret, jumpG_exit, jumpG_panic]
      | (refine GW_region' [] (by kernel_rfl) ?_; intro Q hQ hP; simp [hC, hY]; (first | refine hQ _ _ _ _ ?_ | refine hP _ _ (fun _ => ?_)); clear hQ hP Q)
      | (refine GW_draw' [] follows (by kernel_rfl) (by kernel_rfl) ?_; intro Q hQ hP; simp [hC, hY]; (first | refine hQ _ _ _ _ (by kernel_rfl) ?_ | refine hP _ _ (by kernel_rfl) (fun _ => ?_)); clear hQ hP Q)
      | refine GW_block ?_
      | refine GW_ret ?_
      | refine GW_skip ?_
      | refine GW_exit ?_
      | refine GW_goto ?_
      | refine GW_label ?_
      | simp only [blockG_exit]
      | (refine GW_cond (by simp; rfl) ?_ ?_ <;> (intro hb; first | (exfalso; exact absurd hb (by decide)) | skip)))
    refine ⟨.inr trivial, ?_⟩
    simp [Tryd.results66]
@[simp] theorem not2 (z : Int) (K : Value → Prop) : callK Tryd.prog G0 66 #[Value.agg #[.int .u64 (di (z) 0), .int .u64 (di (z) 1), .int .u64 (di (z) 2), .int .u64 (di (z) 3), .int .u64 (di (z) 4), .int .u64 (di (z) 5), .int .u64 (di (z) 6), .int .u64 (di (z) 7)]] K ↔ K (dg (-z - 1)) := callK_iff G0W (by kernel_rfl) (not2_ret z)

@[simp] theorem di_zero (k : Nat) : di 0 k = 0 := by simp [di]
end Go.Gy
