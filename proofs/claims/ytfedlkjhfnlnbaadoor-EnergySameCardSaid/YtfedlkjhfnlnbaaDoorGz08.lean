/-
  Lemmas of this claim, in their order (GyFH, GyFI, GyH, GyHS, GyHP, GyHT, GyHC).
  Conditions: those of each theorem.
-/
import Derived.Test.YtfedlkjhfnlnbaaDoorGz07
import Derived.Stop.LaidErr
import Derived.Test.YtfedlkjhfnlnbaaDoorCards
import Derived.Test.YtfedlkjhfnlnbaaDoorTie
import Derived.WalkKit
import Derived.ProofKit
import Derived.OpenShut
import Derived.Below
import Derived.ChangeSame
import Derived.Deep.DeepHandedRow
import Derived.Lib.LaidTab
import Derived.Deep.Slices
import Derived.ReadAgain
import Derived.Carry
import Derived.Deep.Strs
import Derived.ChangeSlices
namespace Go.Gy
set_option linter.unusedSimpArgs false
set_option linter.unusedVariables false
open Go Go.RowKit Go.Proofs
def s5N : List (Nat × Nat) := [(0, 52), (1, 53), (2, 54), (3, 55), (4, 12), (5, 13)]
def s5X : List (Nat × Nat) := [(1, 472), (3, 488), (4, 496), (5, 504), (6, 496), (7, 504)]
def s5D : List (Nat × Nat) := [(6, 4), (7, 5), (6, 1), (7, 3)]
def s5V (L : List (Nat × Blk)) (bm bs : Blk) (ks : Nat) (g bx tp nr md st w0 w1 w2 : Int) (off n cap off2 cap2 a b : Nat) (fm fs : Nat → Int) (ca : Nat) (Ma : Nat) (ga : Nat → Int) (cb : Nat) (Mb : Nat) (gb : Nat → Int) : Nat → Value
  | 0 => .agg #[.int .i64 st, .slice (some ⟨ks, off2, none⟩) n cap2]
  | 1 => .agg #[.int .i64 st, .slice (some ⟨472, 0, none⟩) n ca]
  | 2 => .agg #[.slice (some ⟨100, off, none⟩) n cap, .int .i64 g, .int .i64 bx, .int .i64 tp, .int .i64 nr, .int .i64 md]
  | 3 => .agg #[.slice (some ⟨488, 0, none⟩) n cb, .int .i64 g, .int .i64 bx, .int .i64 tp, .int .i64 nr, .int .i64 md]
  | 4 => .pointer (some ⟨496, 0, none⟩)
  | 5 => .pointer (some ⟨504, 0, none⟩)
  | _ => .bool true
def s5Bk (L : List (Nat × Blk)) (bm bs : Blk) (ks : Nat) (g bx tp nr md st w0 w1 w2 : Int) (off n cap off2 cap2 a b : Nat) (fm fs : Nat → Int) (ca : Nat) (Ma : Nat) (ga : Nat → Int) (cb : Nat) (Mb : Nat) (gb : Nat → Int) : Nat → Blk
  | 1 => ⟨fa Ma .i64 ga, .ty 46⟩
  | 3 => ⟨fa Mb .i64 gb, .ty 3⟩
  | 4 => ⟨#[.int .i64 0, .slice none 0 0], .ty 39⟩
  | 5 => ⟨#[.slice none 0 0, .int .i64 0, .int .i64 0, .int .i64 0, .int .i64 0, .int .i64 0], .ty 36⟩
  | 6 => ⟨#[.int .i64 st, .slice (some ⟨472, 0, none⟩) n ca], .ty 39⟩
  | 7 => ⟨#[.slice (some ⟨488, 0, none⟩) n cb, .int .i64 g, .int .i64 bx, .int .i64 tp, .int .i64 nr, .int .i64 md], .ty 36⟩
  | _ => ⟨#[], .mp⟩
structure s5F (L : List (Nat × Blk)) (bm bs : Blk) (ks : Nat) (g bx tp nr md st w0 w1 w2 : Int) (off n cap off2 cap2 a b : Nat) (fm fs : Nat → Int) (ts0 : Nat → Value) (hp0 : Hp) : Prop where
  e2 : ts0 2 = .int .i64 a
  e3 : ts0 3 = .int .i64 b
  e5 : ts0 5 = .pointer (some ⟨200, 0, none⟩)
  e6 : ts0 6 = .pointer (some ⟨208, 0, none⟩)
  e9 : ts0 9 = .pointer (some ⟨216, 0, none⟩)
  e10 : ts0 10 = .bool false
  e11 : ts0 11 = .int .i64 n
  b200 : hp0 200 = some (⟨#[.slice (some ⟨100, off, none⟩) n cap, .int .i64 g, .int .i64 bx, .int .i64 tp, .int .i64 nr, .int .i64 md], .ty 36⟩)
  b208 : hp0 208 = some (⟨#[.int .i64 st, .slice (some ⟨ks, off2, none⟩) n cap2], .ty 39⟩)
  b216 : hp0 216 = some (⟨#[.int .i64 w0, .int .i64 w1, .int .i64 w2], .ty 41⟩)
  low : ∀ k, k < 100 → hp0 k = G0 k
  bL : ∀ p ∈ L, hp0 p.1 = some p.2
theorem s5N1 : (s5N.map Prod.fst).Nodup := by decide +kernel
theorem s5N2 : (s5N.map Prod.snd).Nodup := by decide +kernel
theorem s5X1 : (s5X.map Prod.fst).Nodup := by decide +kernel
theorem s5X200 : ∀ k, k < 200 → k ∉ s5X.map Prod.snd := fun k hk => by simp [s5X]; try omega
def s0N : List (Nat × Nat) := [(0, 105), (1, 106), (2, 107), (3, 108), (4, 104), (5, 109), (6, 110), (7, 18), (9, 19)]
def s0X : List (Nat × Nat) := [(2, 1016), (7, 1056), (8, 1056)]
def s0D : List (Nat × Nat) := [(8, 7)]
def s0V (L : List (Nat × Blk)) (bm bs : Blk) (ks : Nat) (g bx tp nr md st w0 w1 w2 lo hh E : Int) (off n cap off2 cap2 : Nat) (fm fs : Nat → Int) (ct : Nat) (Mt : Nat) (gt : Nat → Int) : Nat → Value
  | 0 => .agg #[.slice (some ⟨100, off, none⟩) n cap, .int .i64 g, .int .i64 bx, .int .i64 tp, .int .i64 nr, .int .i64 md]
  | 1 => .agg #[.int .i64 st, .slice (some ⟨ks, off2, none⟩) n cap2]
  | 2 => .agg #[.int .i64 (-st), .slice (some ⟨1016, 0, none⟩) n ct]
  | 3 => .tuple #[.agg #[.int .u64 (wi lo 0), .int .u64 (wi lo 1), .int .u64 (wi lo 2), .int .u64 (wi lo 3), .int .u64 (wi hh 0), .int .u64 (wi hh 1), .int .u64 (wi hh 2), .int .u64 (wi hh 3)], .int .i64 E]
  | 4 => .tuple #[.agg #[.int .u64 (wi lo 0), .int .u64 (wi lo 1), .int .u64 (wi lo 2), .int .u64 (wi lo 3), .int .u64 (wi hh 0), .int .u64 (wi hh 1), .int .u64 (wi hh 2), .int .u64 (wi hh 3)], .int .i64 E]
  | 5 => .agg #[.int .u64 (wi lo 0), .int .u64 (wi lo 1), .int .u64 (wi lo 2), .int .u64 (wi lo 3), .int .u64 (wi hh 0), .int .u64 (wi hh 1), .int .u64 (wi hh 2), .int .u64 (wi hh 3)]
  | 6 => .int .i64 E
  | 7 => .pointer (some ⟨1056, 0, none⟩)
  | 9 => .int .i64 E
  | _ => .bool true
def s0Bk (L : List (Nat × Blk)) (bm bs : Blk) (ks : Nat) (g bx tp nr md st w0 w1 w2 lo hh E : Int) (off n cap off2 cap2 : Nat) (fm fs : Nat → Int) (ct : Nat) (Mt : Nat) (gt : Nat → Int) : Nat → Blk
  | 2 => ⟨fa Mt .i64 gt, .ty 46⟩
  | 7 => ⟨#[.int .u64 0, .int .u64 0, .int .u64 0, .int .u64 0, .int .u64 0, .int .u64 0, .int .u64 0, .int .u64 0], .ty 48⟩
  | 8 => ⟨#[.int .u64 (wi lo 0), .int .u64 (wi lo 1), .int .u64 (wi lo 2), .int .u64 (wi lo 3), .int .u64 (wi hh 0), .int .u64 (wi hh 1), .int .u64 (wi hh 2), .int .u64 (wi hh 3)], .ty 48⟩
  | _ => ⟨#[], .mp⟩
structure s0F (L : List (Nat × Blk)) (bm bs : Blk) (ks : Nat) (g bx tp nr md st w0 w1 w2 lo hh E : Int) (off n cap off2 cap2 : Nat) (fm fs : Nat → Int) (ts0 : Nat → Value) (hp0 : Hp) : Prop where
  e5 : ts0 5 = .pointer (some ⟨200, 0, none⟩)
  e6 : ts0 6 = .pointer (some ⟨208, 0, none⟩)
  e9 : ts0 9 = .pointer (some ⟨216, 0, none⟩)
  e10 : ts0 10 = .bool false
  e11 : ts0 11 = .int .i64 n
  e14 : ts0 14 = .pointer (some ⟨896, 0, none⟩)
  e15 : ts0 15 = .int .i64 E
  e16 : ts0 16 = .pointer (some ⟨968, 0, none⟩)
  e17 : ts0 17 = .int .i64 E
  b200 : hp0 200 = some (⟨#[.slice (some ⟨100, off, none⟩) n cap, .int .i64 g, .int .i64 bx, .int .i64 tp, .int .i64 nr, .int .i64 md], .ty 36⟩)
  b208 : hp0 208 = some (⟨#[.int .i64 st, .slice (some ⟨ks, off2, none⟩) n cap2], .ty 39⟩)
  b216 : hp0 216 = some (⟨#[.int .i64 w0, .int .i64 w1, .int .i64 w2], .ty 41⟩)
  b896 : hp0 896 = some (⟨#[.int .u64 (wi lo 0), .int .u64 (wi lo 1), .int .u64 (wi lo 2), .int .u64 (wi lo 3), .int .u64 (wi hh 0), .int .u64 (wi hh 1), .int .u64 (wi hh 2), .int .u64 (wi hh 3)], .ty 48⟩)
  b968 : hp0 968 = some (⟨#[.int .u64 (wi lo 0), .int .u64 (wi lo 1), .int .u64 (wi lo 2), .int .u64 (wi lo 3), .int .u64 (wi hh 0), .int .u64 (wi hh 1), .int .u64 (wi hh 2), .int .u64 (wi hh 3)], .ty 48⟩)
  low : ∀ k, k < 100 → hp0 k = G0 k
  bL : ∀ p ∈ L, hp0 p.1 = some p.2
theorem s0N1 : (s0N.map Prod.fst).Nodup := by decide +kernel
theorem s0N2 : (s0N.map Prod.snd).Nodup := by decide +kernel
theorem s0X1 : (s0X.map Prod.fst).Nodup := by decide +kernel
theorem s0X200 : ∀ k, k < 200 → k ∉ s0X.map Prod.snd := fun k hk => by simp [s0X]; try omega
theorem sw_i64 {f : Nat → Int} {n a b : Nat} (h : ∀ j, j < 6 * n → i64 (f j)) (ha : a < n) (hb : b < n) : ∀ j, j < 6 * n → i64 (swF f a b j) := fun j hj => by
  have := sw_lt ha hb (show j / 6 < n by omega)
  exact h _ (by omega)
def w3 (w0 w1 w2 : Int) (u : Nat) : Int := if u = 0 then w0 else if u = 1 then w1 else w2
def eshSt (L : List (Nat × Blk)) (ks : Nat) (g bx tp nr md st w0 w1 w2 lo hh E : Int) (off n cap off2 cap2 cz Mz : Nat) (gz : Nat → Int) (j i : Nat) : GS :=
  ⟨tsL [(5, .pointer (some ⟨200, 0, none⟩)), (6, .pointer (some ⟨208, 0, none⟩)), (9, .pointer (some ⟨216, 0, none⟩)), (10, .bool false), (11, .int .i64 n), (14, .pointer (some ⟨896, 0, none⟩)), (15, .int .i64 E), (20, .pointer (some ⟨1240, 0, none⟩)), (21, .int .i64 j), (22, .int .i64 i)], hpL G0 ([(200, ⟨#[.slice (some ⟨100, off, none⟩) n cap, .int .i64 g, .int .i64 bx, .int .i64 tp, .int .i64 nr, .int .i64 md], .ty 36⟩), (208, ⟨#[.int .i64 st, .slice (some ⟨ks, off2, none⟩) n cap2], .ty 39⟩), (216, ⟨#[.int .i64 w0, .int .i64 w1, .int .i64 w2], .ty 41⟩), (896, ⟨#[.int .u64 (wi lo 0), .int .u64 (wi lo 1), .int .u64 (wi lo 2), .int .u64 (wi lo 3), .int .u64 (wi hh 0), .int .u64 (wi hh 1), .int .u64 (wi hh 2), .int .u64 (wi hh 3)], .ty 48⟩), (1232, ⟨fa Mz .i64 (shF gz (w3 w0 w1 w2) n j i), .ty 46⟩), (1240, ⟨#[.int .i64 st, .slice (some ⟨1232, 0, none⟩) n cz], .ty 39⟩)] ++ L), 2000, 0⟩
theorem sh_i64 {st : Int} {fs w : Nat → Int} {n : Nat} (h6 : ∀ j, j < 6 * n → i64 (fs j)) (r : rightB st fs n = true) (hw : ∀ u, u < 3 → -1048576 ≤ w u ∧ w u ≤ 1048576) : ∀ j, j < 6 * n → i64 (shF fs w n 3 0 j) := fun j hj => by
  obtain ⟨⟨⟨_, a1, a2⟩, ⟨_, b1, b2⟩, ⟨_, c1, c2⟩⟩, _⟩ := right_b r (i := j / 6) (by omega)
  unfold shF
  split
  · rename_i h
    have hu := hw (j % 6) (by omega)
    have : j % 6 = 0 ∨ j % 6 = 1 ∨ j % 6 = 2 := by omega
    rcases this with e | e | e
    · have e2 : fs j = fs (6 * (j / 6)) := congrArg fs (by omega)
      exact ⟨by omega, by omega⟩
    · have e2 : fs j = fs (6 * (j / 6) + 1) := congrArg fs (by omega)
      exact ⟨by omega, by omega⟩
    · have e2 : fs j = fs (6 * (j / 6) + 2) := congrArg fs (by omega)
      exact ⟨by omega, by omega⟩
  · exact h6 j hj
theorem sh_succ {i n : Nat} (hi : i < n) (hn : n ≤ 2932031007402) : Int.bmod ((i : Int) + 1) 18446744073709551616 = ((i + 1 : Nat) : Int) := by
  rw [bm (by omega) (by omega)]
  rfl
theorem ix_le {n M i u : Nat} (hi : i < n) (hM : 6 * n ≤ M) (hu : u < 6) : i * 6 + u + 1 ≤ M ∧ i * 6 + u < M ∧ 6 * i + u < 6 * n := by omega
theorem ix_eq (i u : Nat) : i * 6 + u = 6 * i + u := by omega
theorem sh_sum {st : Int} {fs : Nat → Int} {n : Nat} (r : rightB st fs n = true) {i u : Nat} (hi : i < n) (hu : u < 3) {g w : Int} (hg : g = fs (6 * i + u)) (h1 : ¬ w < -1048576) (h2 : ¬ 1048576 < w) : Int.bmod (g + w) 18446744073709551616 = g + w := by
  obtain ⟨⟨⟨_, a1, a2⟩, ⟨_, b1, b2⟩, ⟨_, c1, c2⟩⟩, _⟩ := right_b r hi
  have : u = 0 ∨ u = 1 ∨ u = 2 := by omega
  rcases this with rfl | rfl | rfl
  · rw [Nat.add_zero] at hg
    exact bm (by omega) (by omega)
  · exact bm (by omega) (by omega)
  · exact bm (by omega) (by omega)
theorem fa_int {M : Nat} {g : Nat → Int} {q : Nat} (h : q < M) : loadK Tryd.prog 3 ⟨fa M .i64 g, .ty 46⟩ q = some (.int .i64 (g q)) := by
  have := loadK_rd1 (P := Tryd.prog) (T := 3) (b := ⟨fa M .i64 g, .ty 46⟩) (off := 0) (j := q) (tyAgg_of Tryd.isAgg3) (rdI_fa M g _) h
  rwa [Nat.zero_add] at this
theorem put6_row {M a : Nat} {g v : Nat → Int} : ((((((fa M IntKind.i64 g).setIfInBounds (a * 6) (Value.int IntKind.i64 (v 0))).setIfInBounds (a * 6 + 1) (Value.int IntKind.i64 (v 1))).setIfInBounds (a * 6 + 1 + 1) (Value.int IntKind.i64 (v 2))).setIfInBounds (a * 6 + 1 + 1 + 1) (Value.int IntKind.i64 (v 3))).setIfInBounds (a * 6 + 1 + 1 + 1 + 1) (Value.int IntKind.i64 (v 4))).setIfInBounds (a * 6 + 1 + 1 + 1 + 1 + 1) (Value.int IntKind.i64 (v 5)) = fa M .i64 (put6 g (6 * a) v) := by
  simp only [fa_set]
  rw [show a * 6 = 6 * a by omega]
  exact congrArg _ (put6_upd g (6 * a) v)
set_option maxRecDepth 8000 in
set_option maxHeartbeats 4000000 in
theorem EnergySame_bad (L : List (Nat × Blk)) (ks : Nat) (bm bs : Blk) (hT : LTwo G0 L ks bm bs) (off n cap : Nat) (fm : Nat → Int) (hm : MB bm off n fm) (hcap : n ≤ cap) (off2 n2 cap2 : Nat) (fs : Nat → Int) (hSb : SB bs off2 n2 fs) (hcap2 : n2 ≤ cap2) (g bx tp nr md st i k w0 w1 w2 : Int) (hg : i64 g) (hbx : i64 bx) (htp : i64 tp) (hnr : i64 nr) (hmd : i64 md) (hs : i64 st) (hi : i64 i) (hk : i64 k) (hw0 : i64 w0) (hw1 : i64 w1) (hw2 : i64 w2) (hf : fitB n n2 (cfOk n fm g bx tp nr md) (rightB st fs n2) = false) :
    Fun Tryd.prog G0 4 #[cfV (.slice (some ⟨100, off, none⟩) n cap) g bx tp nr md, .agg #[.int .i64 st, .slice (some ⟨ks, off2, none⟩) n2 cap2], .int .i64 i, .int .i64 k, .agg #[.int .i64 w0, .int .i64 w1, .int .i64 w2]] (hpL G0 L) (keys L) (.ret (.bool true) []) := by
  refine fun_ofL (B := 200) G0F Tryd.func4 rfl Tryd.call4 hT.ok ?_ (by simp) (by simp) (by simp) (by simp [Tryd.ntmps4]) (by omega) ?_
  · simp [idsV, idsA, idsF, ids0, hT.ia, hT.ib, cfV]
  intro C hC hC0 hY
  have wk := wakes22_of wakes22_ret
  have hrm := fun ρ => Blk.fx_rn hm.fx ρ
  have hrs := fun ρ => Blk.fx_rn hSb.fx ρ
  have hA := hT.a
  have hS := hT.s
  have hne := hT.ne
  have hLow := hT.low
  have hks := hT.k1
  have hks2 := hT.k2
  have hnn := hSb.nn
  have hft := fits16_L L ks bm bs hT off n cap off2 n2 cap2 fm fs hm hSb g bx tp nr md st
  have hgr := great_L L ks bm bs hT off n cap off2 n2 cap2 g bx tp nr md st
  rw [hf] at hft
  unfold cfV at hft hgr ⊢
  cases hq : (decide (9 < n) || decide (9 < n2)) with
  | true =>
    rw [hq] at hgr
    repeat' (first | apply gwS | simp only [wN, wM, Nat.reduceAdd, Nat.reduceMul] | ((first | refine gwR [11, 12] ?_ | refine gwD [11, 12] ?_); intro Q hQ hP; simp [hC, hY, hA, hS, hne, wk]; (repeat ((first | (refine heapK_L hgr hT.ok (by (intro p hp; have hpb := hT.ok.big p hp; (try dsimp only); simp (disch := omega) only [addB, upd_other, hpL_cons, hpL_nil, if_neg, updL, List.cons_append, List.nil_append]; first | exact hT.mem p hp | exact cL p hp)) ?_) | (refine heapK_L hft hT.ok (by (intro p hp; have hpb := hT.ok.big p hp; (try dsimp only); simp (disch := omega) only [addB, upd_other, hpL_cons, hpL_nil, if_neg, updL, List.cons_append, List.nil_append]; first | exact hT.mem p hp | exact cL p hp)) ?_)); try simp [hC, hY, hA, hS, hne, wk])); (first | refine hQ _ _ _ _ (by kernel_rfl) ?_ | refine hP _ _ (by kernel_rfl) fun _ => ?_); clear hQ hP Q) | apply gwB | apply gwT | apply gwK | apply gwE | apply gwG | apply gwL | simp only [blockG_exit] | (refine gwC ?_ ?_ <;> (intro hb; first | (cases hb; done) | skip)))
    refine ⟨.inr rfl, by simp [Tryd.results4], keep_of G0F (by (intro p hp; have hpb := hT.ok.big p hp; first | rfl | (simp (disch := omega) only [addB, upd_other, hpL_cons, hpL_nil, if_neg, updL, List.cons_append, List.nil_append] <;> done))) (by (intro k hk; first | exact hLow k hk | (simp (disch := omega) only [hLow, addB, List.mem_cons, List.not_mem_nil, or_false, upd_other, hpL_cons, hpL_nil, if_neg, updL, List.cons_append, List.nil_append] <;> done)))⟩
  | false =>
    rw [hq] at hgr
    repeat' (first | apply gwS | simp only [wN, wM, Nat.reduceAdd, Nat.reduceMul] | ((first | refine gwR [11, 12] ?_ | refine gwD [11, 12] ?_); intro Q hQ hP; simp [hC, hY, hA, hS, hne, wk]; (repeat ((first | (refine heapK_L hgr hT.ok (by (intro p hp; have hpb := hT.ok.big p hp; (try dsimp only); simp (disch := omega) only [addB, upd_other, hpL_cons, hpL_nil, if_neg, updL, List.cons_append, List.nil_append]; first | exact hT.mem p hp | exact cL p hp)) ?_) | (refine heapK_L hft hT.ok (by (intro p hp; have hpb := hT.ok.big p hp; (try dsimp only); simp (disch := omega) only [addB, upd_other, hpL_cons, hpL_nil, if_neg, updL, List.cons_append, List.nil_append]; first | exact hT.mem p hp | exact cL p hp)) ?_)); try simp [hC, hY, hA, hS, hne, wk])); (first | refine hQ _ _ _ _ (by kernel_rfl) ?_ | refine hP _ _ (by kernel_rfl) fun _ => ?_); clear hQ hP Q) | apply gwB | apply gwT | apply gwK | apply gwE | apply gwG | apply gwL | simp only [blockG_exit] | (refine gwC ?_ ?_ <;> (intro hb; first | (cases hb; done) | skip)))
    refine ⟨.inr rfl, by simp [Tryd.results4], keep_of G0F (by (intro p hp; have hpb := hT.ok.big p hp; first | rfl | (simp (disch := omega) only [addB, upd_other, hpL_cons, hpL_nil, if_neg, updL, List.cons_append, List.nil_append] <;> done))) (by (intro k hk; first | exact hLow k hk | (simp (disch := omega) only [hLow, addB, List.mem_cons, List.not_mem_nil, or_false, upd_other, hpL_cons, hpL_nil, if_neg, updL, List.cons_append, List.nil_append] <;> done)))⟩
set_option maxRecDepth 8000 in
set_option maxHeartbeats 16000000 in
theorem EnergySame_fit (L : List (Nat × Blk)) (ks : Nat) (bm bs : Blk) (hT : LTwo G0 L ks bm bs) (off n cap : Nat) (fm : Nat → Int) (hm : MB bm off n fm) (hcap : n ≤ cap) (off2 n2 cap2 : Nat) (fs : Nat → Int) (hSb : SB bs off2 n2 fs) (hcap2 : n2 ≤ cap2) (g bx tp nr md st i k w0 w1 w2 : Int) (hg : i64 g) (hbx : i64 bx) (htp : i64 tp) (hnr : i64 nr) (hmd : i64 md) (hs : i64 st) (hi : i64 i) (hk : i64 k) (hw0 : i64 w0) (hw1 : i64 w1) (hw2 : i64 w2) (hf : fitB n n2 (cfOk n fm g bx tp nr md) (rightB st fs n2) = true) :
    Fun Tryd.prog G0 4 #[cfV (.slice (some ⟨100, off, none⟩) n cap) g bx tp nr md, .agg #[.int .i64 st, .slice (some ⟨ks, off2, none⟩) n2 cap2], .int .i64 i, .int .i64 k, .agg #[.int .i64 w0, .int .i64 w1, .int .i64 w2]] (hpL G0 L) (keys L) (.ret (.bool true) []) := by
  refine fun_ofL (B := 200) G0F Tryd.func4 rfl Tryd.call4 hT.ok ?_ (by simp) (by simp) (by simp) (by simp [Tryd.ntmps4]) (by omega) ?_
  · simp [idsV, idsA, idsF, ids0, hT.ia, hT.ib, cfV]
  intro C hC hC0 hY
  have wk := wakes22_of wakes22_ret
  have hrm := fun ρ => Blk.fx_rn hm.fx ρ
  have hrs := fun ρ => Blk.fx_rn hSb.fx ρ
  have hA := hT.a
  have hS := hT.s
  have hne := hT.ne
  have hLow := hT.low
  have hks := hT.k1
  have hks2 := hT.k2
  have hnn := hSb.nn
  have hft := fits16_L L ks bm bs hT off n cap off2 n2 cap2 fm fs hm hSb g bx tp nr md st
  have hgr := great_L L ks bm bs hT off n cap off2 n2 cap2 g bx tp nr md st
  obtain ⟨rfl, c, r⟩ := fitB_iff.1 hf
  rw [hf] at hft
  have hn4 := (right_n r).2.1
  have hst := (right_n r).1
  rw [show (decide (9 < n) || decide (9 < n)) = false by simp; omega] at hgr
  have hn0 : ¬ (n : Int) = 0 := by omega
  have hn0' : ¬ n = 0 := by omega
  obtain ⟨a, ha, ia⟩ := rem_in i hn4
  obtain ⟨b, hbn, ib⟩ := rem_in k hn4
  have hs' : i64 (-st) := ⟨by omega, by omega⟩
  have hF6 : ∀ j, j < 6 * n → i64 (tnF fs n j) := fun j hj => by
    have h9 := hSb.i6 j hj
    have h8 := right_b r (i := j / 6) (by omega)
    unfold tnF
    split
    · obtain ⟨_, ⟨_, a1, a2⟩, ⟨_, b1, b2⟩, ⟨_, c1, c2⟩⟩ := h8
      have : j % 6 = 3 ∨ j % 6 = 4 ∨ j % 6 = 5 := by omega
      rcases this with e | e | e
      · rw [show j = 6 * (j / 6) + 3 by omega]; exact ⟨by omega, by omega⟩
      · rw [show j = 6 * (j / 6) + 4 by omega]; exact ⟨by omega, by omega⟩
      · rw [show j = 6 * (j / 6) + 5 by omega]; exact ⟨by omega, by omega⟩
    · exact h9
  obtain ⟨lo, hh, E, hR⟩ : ∃ lo hh E, enV n n fm fs g bx tp nr md st = .tuple #[spV lo hh, .int .i64 E] := ⟨_, _, _, rfl⟩
  have dO := own10_nm ks 472 (by omega) (by omega) (by omega) bs off2 n cap2 fs hSb hcap2 st
  have dQ := own11_nm 100 488 (by omega) (by omega) (by omega) bm off n cap fm hm hcap g bx tp nr md
  unfold cfV at hft hgr dQ ⊢
  repeat' (first | apply gwS | simp only [wN, wM, Nat.reduceAdd, Nat.reduceMul] | ((first | refine gwR [11, 12] ?_ | refine gwD [11, 12] ?_); intro Q hQ hP; simp [hC, hY, hA, hS, hne, wk, hn0, hn0', ia, ib]; (repeat ((first | (refine heapK_L hgr hT.ok (by (intro p hp; have hpb := hT.ok.big p hp; (try dsimp only); simp (disch := omega) only [addB, upd_other, hpL_cons, hpL_nil, if_neg, updL, List.cons_append, List.nil_append]; first | exact hT.mem p hp | exact cL p hp)) ?_) | (refine heapK_L hft hT.ok (by (intro p hp; have hpb := hT.ok.big p hp; (try dsimp only); simp (disch := omega) only [addB, upd_other, hpL_cons, hpL_nil, if_neg, updL, List.cons_append, List.nil_append]; first | exact hT.mem p hp | exact cL p hp)) ?_)); try simp [hC, hY, hA, hS, hne, wk, hn0, hn0', ia, ib])); (first | refine hQ _ _ _ _ (by kernel_rfl) ?_ | refine hP _ _ (by kernel_rfl) fun _ => ?_); clear hQ hP Q) | apply gwB | apply gwT | apply gwK | apply gwE | apply gwG | apply gwL | simp only [blockG_exit] | (refine gwC ?_ ?_ <;> (intro hb; first | (cases hb; done) | skip)))
  refine GW_any follows ?_
  simp only [Array.toList, List.append_eq, List.cons_append, List.nil_append, List.length_cons, List.length_nil, Nat.reduceAdd]
  refine GA_gen (s5F L bm bs ks g bx tp nr md st w0 w1 w2 off n cap off2 cap2 a b fm fs) ?_ ?_
  · refine ⟨by simp [ia, ib], by simp [ia, ib], by simp [ia, ib], by simp [ia, ib], by simp [ia, ib], by simp [ia, ib], by simp [ia, ib], by simp [ia, ib], by simp [ia, ib], by simp [ia, ib], ?_, ?_⟩
    · intro k hk
      simp (disch := omega) only [upd_other, updL, hpL_cons, hpL_nil, if_neg, hT.low]
    · intro p hp
      have hb := hT.ok.big p hp
      simp (disch := omega) only [upd_other, updL, hpL_cons, hpL_nil, if_neg]
      exact hT.mem p hp
  intro ts0 hp0 hF
  refine GA_ind (fun listed ts hp => ∃ ca Ma ga cb Mb gb, (n ≤ ca ∧ 6 * n ≤ Ma ∧ (∀ j, j < 6 * n → ga j = fs j) ∧ n ≤ cb ∧ n ≤ Mb ∧ (∀ j, j < n → gb j = fm j)) ∧ TJ s5N s5X s5D (s5V L bm bs ks g bx tp nr md st w0 w1 w2 off n cap off2 cap2 a b fm fs ca Ma ga cb Mb gb) (s5Bk L bm bs ks g bx tp nr md st w0 w1 w2 off n cap off2 cap2 a b fm fs ca Ma ga cb Mb gb) ts0 hp0 listed ts hp) (fun listed ts hp szR rdR hI => ?_) (fun fuel listed ts hp i szR hi hdep h hk => ?_) _ _ _ _ (by simp) (by decide +kernel) ?_
  · have hall' := ready_nilB szR (by kernel_rfl) rdR
    have hall : ∀ i, i < 8 → listed[i]? = some true := fun i hi => hall' i (by simpa using hi)
    obtain ⟨ca, Ma, ga, cb, Mb, gb, hinv, hI⟩ := hI
    have k2 : ts 2 = .int .i64 a := (hI.t0 2 (by decide)).trans hF.e2
    have k3 : ts 3 = .int .i64 b := (hI.t0 3 (by decide)).trans hF.e3
    have k5 : ts 5 = .pointer (some ⟨200, 0, none⟩) := (hI.t0 5 (by decide)).trans hF.e5
    have k6 : ts 6 = .pointer (some ⟨208, 0, none⟩) := (hI.t0 6 (by decide)).trans hF.e6
    have k9 : ts 9 = .pointer (some ⟨216, 0, none⟩) := (hI.t0 9 (by decide)).trans hF.e9
    have k10 : ts 10 = .bool false := (hI.t0 10 (by decide)).trans hF.e10
    have k11 : ts 11 = .int .i64 n := (hI.t0 11 (by decide)).trans hF.e11
    have k12 : ts 12 = .pointer (some ⟨496, 0, none⟩) := hI.tm (4, 12) (by decide) (hall 4 (by omega))
    have k13 : ts 13 = .pointer (some ⟨504, 0, none⟩) := hI.tm (5, 13) (by decide) (hall 5 (by omega))
    have c200 : hp 200 = some (⟨#[.slice (some ⟨100, off, none⟩) n cap, .int .i64 g, .int .i64 bx, .int .i64 tp, .int .i64 nr, .int .i64 md], .ty 36⟩) := (hI.ext (by decide)).trans hF.b200
    have c208 : hp 208 = some (⟨#[.int .i64 st, .slice (some ⟨ks, off2, none⟩) n cap2], .ty 39⟩) := (hI.ext (by decide)).trans hF.b208
    have c216 : hp 216 = some (⟨#[.int .i64 w0, .int .i64 w1, .int .i64 w2], .ty 41⟩) := (hI.ext (by decide)).trans hF.b216
    have c472 : hp 472 = some (⟨fa Ma .i64 ga, .ty 46⟩) := hI.bx (1, 472) (by decide) (hall 1 (by omega)) (by simp [s5X])
    have c488 : hp 488 = some (⟨fa Mb .i64 gb, .ty 3⟩) := hI.bx (3, 488) (by decide) (hall 3 (by omega)) (by simp [s5X])
    have c496 : hp 496 = some (⟨#[.int .i64 st, .slice (some ⟨472, 0, none⟩) n ca], .ty 39⟩) := hI.bx (6, 496) (by decide) (hall 6 (by omega)) (by simp [s5X])
    have c504 : hp 504 = some (⟨#[.slice (some ⟨488, 0, none⟩) n cb, .int .i64 g, .int .i64 bx, .int .i64 tp, .int .i64 nr, .int .i64 md], .ty 36⟩) := hI.bx (7, 504) (by decide) (hall 7 (by omega)) (by simp [s5X])
    have cL : ∀ p ∈ L, hp p.1 = some p.2 := fun p hp => (hI.ext (s5X200 _ (hT.ok.big p hp).2)).trans (hF.bL p hp)
    have clow : ∀ k, k < 100 → hp k = G0 k := fun k hk => (hI.ext (s5X200 _ (by omega))).trans (hF.low k hk)
    simp only [thenG_normal]
    refine GW_weak (weakLL [(2, .int .i64 a), (3, .int .i64 b), (5, .pointer (some ⟨200, 0, none⟩)), (6, .pointer (some ⟨208, 0, none⟩)), (9, .pointer (some ⟨216, 0, none⟩)), (10, .bool false), (11, .int .i64 n), (12, .pointer (some ⟨496, 0, none⟩)), (13, .pointer (some ⟨504, 0, none⟩))] 528 hC G0F (m := [(200, ⟨#[.slice (some ⟨100, off, none⟩) n cap, .int .i64 g, .int .i64 bx, .int .i64 tp, .int .i64 nr, .int .i64 md], .ty 36⟩), (208, ⟨#[.int .i64 st, .slice (some ⟨ks, off2, none⟩) n cap2], .ty 39⟩), (216, ⟨#[.int .i64 w0, .int .i64 w1, .int .i64 w2], .ty 41⟩), (472, ⟨fa Ma .i64 ga, .ty 46⟩), (488, ⟨fa Mb .i64 gb, .ty 3⟩), (496, ⟨#[.int .i64 st, .slice (some ⟨472, 0, none⟩) n ca], .ty 39⟩), (504, ⟨#[.slice (some ⟨488, 0, none⟩) n cb, .int .i64 g, .int .i64 bx, .int .i64 tp, .int .i64 nr, .int .i64 md], .ty 36⟩)]) hT.ok hT.fx hC0 (by omega) ?_ ?_ ?_) ?_
    · simp [k2, k3, k5, k6, k9, k10, k11, k12, k13, idsV, idsA, idsF, ids0, dom]
    · simp [c200, c208, c216, c472, c488, c496, c504, ids_lit, idsF, ids0, dom, hA, hS, hne, Blk.fx_ids (fa_fx _ _ _)]
    · exact cL
    simp only [List.cons_append, List.nil_append]
    obtain ⟨p1, p2, p3, p4, p5, p6⟩ := hinv
    have hbody := hSb.body (i := a) ha
    have hbody2 := hSb.body (i := b) hbn
    have hmass := hm.at (i := a) ha
    have hmass2 := hm.at (i := b) hbn
    have ha1 : (a : Int) < n := by omega
    have hb1 : (b : Int) < n := by omega
    have ha0 : (0 : Int) ≤ a := by omega
    have hb0 : (0 : Int) ≤ b := by omega
    have hMa : a * 6 + 6 ≤ Ma := by omega
    have hMb : b * 6 + 6 ≤ Ma := by omega
    have hMa2 : a + 1 ≤ Mb := by omega
    have hMb2 : b + 1 ≤ Mb := by omega
    refine GW_seq ?_
    ((first | refine gwR [] ?_ | refine gwD [] ?_); intro Q hQ hP; simp [hC, hY, hA, hS, hne, hbody, hbody2, ha1, hb1, ha0, hb0, hMa, hMb]; (first | refine hQ _ _ _ _ (by rcases hT.k8 with h8 | h8 <;> subst h8 <;> kernel_rfl) ?_ | refine hP _ _ (by rcases hT.k8 with h8 | h8 <;> subst h8 <;> kernel_rfl) fun _ => ?_); clear hQ hP Q)
    simp only [wN, wM, Nat.reduceAdd, Nat.reduceMul]
    refine GW_seq ?_
    ((first | refine gwR [] ?_ | refine gwD [] ?_); intro Q hQ hP; simp [hC, hY, hA, hS, hne, hmass, hmass2, ha1, hb1, ha0, hb0, hMa2, hMb2]; (first | refine hQ _ _ _ _ (by rcases hT.k8 with h8 | h8 <;> subst h8 <;> kernel_rfl) ?_ | refine hP _ _ (by rcases hT.k8 with h8 | h8 <;> subst h8 <;> kernel_rfl) fun _ => ?_); clear hQ hP Q)
    simp only [wN, wM, Nat.reduceAdd, Nat.reduceMul]
    have q1 := put6_row (M := Ma) (a := a) (g := ga) (v := fun u => fs (6 * b + u))
    have q2 := put6_row (M := Ma) (a := b) (g := put6 ga (6 * a) fun u => fs (6 * b + u)) (v := fun u => fs (6 * a + u))
    simp only [Nat.add_zero] at q1 q2
    have q3 := fa_set Mb .i64 gb a (fm b)
    have q4 := fa_set Mb .i64 (upd gb a (fm b)) b (fm a)
    have hSo := own_sb (n := n) (M := Ma) p2 (put6_sw ha hbn p3) (sw_i64 hSb.i6 ha hbn) hnn
    have hMo := own_mb (n := n) (M := Mb) p5 (put1_sw ha hbn p6) (fun j hj => hm.i6 _ (sw_lt ha hbn hj)) hm.nn
    generalize (put6 (put6 ga (6 * a) fun u => fs (6 * b + u)) (6 * b) fun u => fs (6 * a + u)) = go at *
    generalize (upd (upd gb a (fm b)) b (fm a)) = gq at *
    refine GW_weak (weakLL [(5, .pointer (some ⟨200, 0, none⟩)), (6, .pointer (some ⟨208, 0, none⟩)), (9, .pointer (some ⟨216, 0, none⟩)), (10, .bool false), (11, .int .i64 n), (12, .pointer (some ⟨496, 0, none⟩)), (13, .pointer (some ⟨504, 0, none⟩))] 848 hC G0F (m := [(200, ⟨#[.slice (some ⟨100, off, none⟩) n cap, .int .i64 g, .int .i64 bx, .int .i64 tp, .int .i64 nr, .int .i64 md], .ty 36⟩), (208, ⟨#[.int .i64 st, .slice (some ⟨ks, off2, none⟩) n cap2], .ty 39⟩), (216, ⟨#[.int .i64 w0, .int .i64 w1, .int .i64 w2], .ty 41⟩), (472, ⟨fa Ma .i64 go, .ty 46⟩), (488, ⟨fa Mb .i64 gq, .ty 3⟩), (496, ⟨#[.int .i64 st, .slice (some ⟨472, 0, none⟩) n ca], .ty 39⟩), (504, ⟨#[.slice (some ⟨488, 0, none⟩) n cb, .int .i64 g, .int .i64 bx, .int .i64 tp, .int .i64 nr, .int .i64 md], .ty 36⟩)]) hT.ok hT.fx hC0 (by omega) ?_ ?_ ?_) ?_
    · simp [wi_zero, idsV, idsA, idsF, ids0, dom]
    · simp [q1, q2, q3, q4, ids_lit, idsF, ids0, dom, hA, hS, hne, Blk.fx_ids (fa_fx _ _ _)]
    · (intro p hp; have hpb := hT.ok.big p hp; (try dsimp only); simp (disch := omega) only [addB, upd_other, hpL_cons, hpL_nil, if_neg, updL, List.cons_append, List.nil_append]; first | exact hT.mem p hp | exact cL p hp)
    simp only [List.cons_append, List.nil_append]
    have hE1 := eEnergy_L L ks bm bs hT off n cap off2 n cap2 fm fs hm hSb hcap hcap2 g bx tp nr md st hs
    rw [hR] at hE1
    have hE2 := eEnergy_L _ 108 _ _ (LTwo.two (G := G0) hMo.fx hSo.fx) 0 n cb 0 n ca _ _ hMo hSo p4 p1 g bx tp nr md st hs
    rw [enV_sw c r ha hbn, hR] at hE2
    unfold cfV spV at hE1 hE2
    repeat' (first | apply gwS | simp only [wN, wM, Nat.reduceAdd, Nat.reduceMul] | ((first | refine gwR [15] ?_ | refine gwD [15] ?_); intro Q hQ hP; simp [hC, hY, hA, hS, hne]; (repeat ((first | (refine heapK_L hE1 hT.ok (by (intro p hp; have hpb := hT.ok.big p hp; (try dsimp only); simp (disch := omega) only [addB, upd_other, hpL_cons, hpL_nil, if_neg, updL, List.cons_append, List.nil_append]; first | exact hT.mem p hp | exact cL p hp)) ?_) | (refine heapK_mv hE2 G0F (B := 200) (LTwo.two (G := G0) hMo.fx hSo.fx).ok (fun k => if k = 100 then 488 else if k = 108 then 472 else k) (fun k hk => (if_neg (by omega)).trans (if_neg (by omega))) (by simp [ren, renA, renF, ren0]) (by simp) (by simp [fa_rn]) (by simp [keys]) (by simp [keys]; rfl) ?_)); try simp [hC, hY, hA, hS, hne])); (first | refine hQ _ _ _ _ (by kernel_rfl) ?_ | refine hP _ _ (by kernel_rfl) fun _ => ?_); clear hQ hP Q) | apply gwB | apply gwT | apply gwK | apply gwE | apply gwG | apply gwL | simp only [blockG_exit] | (refine gwC ?_ ?_ <;> (intro hb; first | (cases hb; done) | skip)))
    refine GW_weak (weakLL [(5, .pointer (some ⟨200, 0, none⟩)), (6, .pointer (some ⟨208, 0, none⟩)), (9, .pointer (some ⟨216, 0, none⟩)), (10, .bool false), (11, .int .i64 n), (14, .pointer (some ⟨896, 0, none⟩)), (15, .int .i64 E), (16, .pointer (some ⟨968, 0, none⟩)), (17, .int .i64 E)] 1000 hC G0F (m := [(200, ⟨#[.slice (some ⟨100, off, none⟩) n cap, .int .i64 g, .int .i64 bx, .int .i64 tp, .int .i64 nr, .int .i64 md], .ty 36⟩), (208, ⟨#[.int .i64 st, .slice (some ⟨ks, off2, none⟩) n cap2], .ty 39⟩), (216, ⟨#[.int .i64 w0, .int .i64 w1, .int .i64 w2], .ty 41⟩), (896, ⟨#[.int .u64 (wi lo 0), .int .u64 (wi lo 1), .int .u64 (wi lo 2), .int .u64 (wi lo 3), .int .u64 (wi hh 0), .int .u64 (wi hh 1), .int .u64 (wi hh 2), .int .u64 (wi hh 3)], .ty 48⟩), (968, ⟨#[.int .u64 (wi lo 0), .int .u64 (wi lo 1), .int .u64 (wi lo 2), .int .u64 (wi lo 3), .int .u64 (wi hh 0), .int .u64 (wi hh 1), .int .u64 (wi hh 2), .int .u64 (wi hh 3)], .ty 48⟩)]) hT.ok hT.fx hC0 (by omega) ?_ ?_ ?_) ?_
    · simp [wi_zero, idsV, idsA, idsF, ids0, dom]
    · simp [wi_zero, ids_lit, idsF, ids0, dom, hA, hS, hne, Blk.fx_ids (fa_fx _ _ _)]
    · (intro p hp; have hpb := hT.ok.big p hp; (try dsimp only); simp (disch := omega) only [addB, upd_other, hpL_cons, hpL_nil, if_neg, updL, List.cons_append, List.nil_append]; first | exact hT.mem p hp | exact cL p hp)
    simp only [List.cons_append, List.nil_append]
    have dT := turned_nm ks 1016 (by omega) (by omega) (by omega) bs off2 n cap2 fs hSb hcap2 st r
    refine GW_any follows ?_
    simp only [Array.toList, List.append_eq, List.cons_append, List.nil_append, List.length_cons, List.length_nil, Nat.reduceAdd]
    refine GA_gen (s0F L bm bs ks g bx tp nr md st w0 w1 w2 lo hh E off n cap off2 cap2 fm fs) ?_ ?_
    · refine ⟨by simp, by simp, by simp, by simp, by simp, by simp, by simp, by simp, by simp, by simp, by simp, by simp, by simp, by simp, ?_, ?_⟩
      · intro k hk
        simp (disch := omega) only [upd_other, updL, hpL_cons, hpL_nil, if_neg, hT.low]
      · intro p hp
        have hb := hT.ok.big p hp
        simp (disch := omega) only [upd_other, updL, hpL_cons, hpL_nil, if_neg]
        exact hT.mem p hp
    intro ts0 hp0 hF
    refine GA_ind (fun listed ts hp => ∃ ct Mt gt, (n ≤ ct ∧ 6 * n ≤ Mt ∧ (∀ j, j < 6 * n → gt j = tnF fs n j)) ∧ TJ s0N s0X s0D (s0V L bm bs ks g bx tp nr md st w0 w1 w2 lo hh E off n cap off2 cap2 fm fs ct Mt gt) (s0Bk L bm bs ks g bx tp nr md st w0 w1 w2 lo hh E off n cap off2 cap2 fm fs ct Mt gt) ts0 hp0 listed ts hp) (fun listed ts hp szR rdR hI => ?_) (fun fuel listed ts hp i szR hi hdep h hk => ?_) _ _ _ _ (by simp) (by decide +kernel) ?_
    · have hall' := ready_nilB szR (by kernel_rfl) rdR
      have hall : ∀ i, i < 10 → listed[i]? = some true := fun i hi => hall' i (by simpa using hi)
      obtain ⟨ct, Mt, gt, hinv, hI⟩ := hI
      have k5 : ts 5 = .pointer (some ⟨200, 0, none⟩) := (hI.t0 5 (by decide)).trans hF.e5
      have k6 : ts 6 = .pointer (some ⟨208, 0, none⟩) := (hI.t0 6 (by decide)).trans hF.e6
      have k9 : ts 9 = .pointer (some ⟨216, 0, none⟩) := (hI.t0 9 (by decide)).trans hF.e9
      have k10 : ts 10 = .bool false := (hI.t0 10 (by decide)).trans hF.e10
      have k11 : ts 11 = .int .i64 n := (hI.t0 11 (by decide)).trans hF.e11
      have k14 : ts 14 = .pointer (some ⟨896, 0, none⟩) := (hI.t0 14 (by decide)).trans hF.e14
      have k15 : ts 15 = .int .i64 E := (hI.t0 15 (by decide)).trans hF.e15
      have k16 : ts 16 = .pointer (some ⟨968, 0, none⟩) := (hI.t0 16 (by decide)).trans hF.e16
      have k17 : ts 17 = .int .i64 E := (hI.t0 17 (by decide)).trans hF.e17
      have k18 : ts 18 = .pointer (some ⟨1056, 0, none⟩) := hI.tm (7, 18) (by decide) (hall 7 (by omega))
      have k19 : ts 19 = .int .i64 E := hI.tm (9, 19) (by decide) (hall 9 (by omega))
      have c200 : hp 200 = some (⟨#[.slice (some ⟨100, off, none⟩) n cap, .int .i64 g, .int .i64 bx, .int .i64 tp, .int .i64 nr, .int .i64 md], .ty 36⟩) := (hI.ext (by decide)).trans hF.b200
      have c208 : hp 208 = some (⟨#[.int .i64 st, .slice (some ⟨ks, off2, none⟩) n cap2], .ty 39⟩) := (hI.ext (by decide)).trans hF.b208
      have c216 : hp 216 = some (⟨#[.int .i64 w0, .int .i64 w1, .int .i64 w2], .ty 41⟩) := (hI.ext (by decide)).trans hF.b216
      have c896 : hp 896 = some (⟨#[.int .u64 (wi lo 0), .int .u64 (wi lo 1), .int .u64 (wi lo 2), .int .u64 (wi lo 3), .int .u64 (wi hh 0), .int .u64 (wi hh 1), .int .u64 (wi hh 2), .int .u64 (wi hh 3)], .ty 48⟩) := (hI.ext (by decide)).trans hF.b896
      have c968 : hp 968 = some (⟨#[.int .u64 (wi lo 0), .int .u64 (wi lo 1), .int .u64 (wi lo 2), .int .u64 (wi lo 3), .int .u64 (wi hh 0), .int .u64 (wi hh 1), .int .u64 (wi hh 2), .int .u64 (wi hh 3)], .ty 48⟩) := (hI.ext (by decide)).trans hF.b968
      have c1056 : hp 1056 = some (⟨#[.int .u64 (wi lo 0), .int .u64 (wi lo 1), .int .u64 (wi lo 2), .int .u64 (wi lo 3), .int .u64 (wi hh 0), .int .u64 (wi hh 1), .int .u64 (wi hh 2), .int .u64 (wi hh 3)], .ty 48⟩) := hI.bx (8, 1056) (by decide) (hall 8 (by omega)) (by simp [s0X])
      have cL : ∀ p ∈ L, hp p.1 = some p.2 := fun p hp => (hI.ext (s0X200 _ (hT.ok.big p hp).2)).trans (hF.bL p hp)
      have clow : ∀ k, k < 100 → hp k = G0 k := fun k hk => (hI.ext (s0X200 _ (by omega))).trans (hF.low k hk)
      simp only [thenG_normal]
      refine GW_weak (weakLL [(5, .pointer (some ⟨200, 0, none⟩)), (6, .pointer (some ⟨208, 0, none⟩)), (9, .pointer (some ⟨216, 0, none⟩)), (10, .bool false), (11, .int .i64 n), (14, .pointer (some ⟨896, 0, none⟩)), (15, .int .i64 E), (16, .pointer (some ⟨968, 0, none⟩)), (17, .int .i64 E), (18, .pointer (some ⟨1056, 0, none⟩)), (19, .int .i64 E)] 1080 hC G0F (m := [(200, ⟨#[.slice (some ⟨100, off, none⟩) n cap, .int .i64 g, .int .i64 bx, .int .i64 tp, .int .i64 nr, .int .i64 md], .ty 36⟩), (208, ⟨#[.int .i64 st, .slice (some ⟨ks, off2, none⟩) n cap2], .ty 39⟩), (216, ⟨#[.int .i64 w0, .int .i64 w1, .int .i64 w2], .ty 41⟩), (896, ⟨#[.int .u64 (wi lo 0), .int .u64 (wi lo 1), .int .u64 (wi lo 2), .int .u64 (wi lo 3), .int .u64 (wi hh 0), .int .u64 (wi hh 1), .int .u64 (wi hh 2), .int .u64 (wi hh 3)], .ty 48⟩), (968, ⟨#[.int .u64 (wi lo 0), .int .u64 (wi lo 1), .int .u64 (wi lo 2), .int .u64 (wi lo 3), .int .u64 (wi hh 0), .int .u64 (wi hh 1), .int .u64 (wi hh 2), .int .u64 (wi hh 3)], .ty 48⟩), (1056, ⟨#[.int .u64 (wi lo 0), .int .u64 (wi lo 1), .int .u64 (wi lo 2), .int .u64 (wi lo 3), .int .u64 (wi hh 0), .int .u64 (wi hh 1), .int .u64 (wi hh 2), .int .u64 (wi hh 3)], .ty 48⟩)]) hT.ok hT.fx hC0 (by omega) ?_ ?_ ?_) ?_
      · simp [k5, k6, k9, k10, k11, k14, k15, k16, k17, k18, k19, idsV, idsA, idsF, ids0, dom]
      · simp [c200, c208, c216, c896, c968, c1056, ids_lit, idsF, ids0, dom, hA, hS, hne, Blk.fx_ids (fa_fx _ _ _)]
      · exact cL
      simp only [List.cons_append, List.nil_append]
      repeat' (first | apply gwS | simp only [wN, wM, Nat.reduceAdd, Nat.reduceMul] | ((first | refine gwR [] ?_ | refine gwD [] ?_); intro Q hQ hP; simp [hC, hY, hA, hS, hne]; (first | refine hQ _ _ _ _ (by kernel_rfl) ?_ | refine hP _ _ (by kernel_rfl) fun _ => ?_); clear hQ hP Q) | apply gwB | apply gwT | apply gwK | apply gwE | apply gwG | apply gwL | simp only [blockG_exit] | (refine gwC ?_ ?_ <;> (intro hb; first | (cases hb; done) | skip)))
      have dZ := own10_nm ks 1232 (by omega) (by omega) (by omega) bs off2 n cap2 fs hSb hcap2 st
      refine GW_list ?_
      simp only [Array.toList]
      refine GL_walk 1 [] rfl (by simp) (by kernel_rfl) ?_; intro q hq; simp [hC, hY, hA, hS, hne]; refine hq _ _ _ _ ?_; clear hq q
      simp only [wT, List.length_cons, List.length_nil, Nat.reduceAdd]
      refine GL_callL (f := .func 13) (cap := #[]) hC dZ rfl (by simp) rfl rfl (by simp [okT]) (by simp [gev]) (by simp) (by simp [okX, junk]) (by simp [gev]) (by simp [hS, hne]) (by (intro k hk; first | exact hLow k hk | (simp (disch := omega) only [hLow, addB, List.mem_cons, List.not_mem_nil, or_false, upd_other, hpL_cons, hpL_nil, if_neg, updL, List.cons_append, List.nil_append] <;> done))) ?_ ?_
      · intro v ns hV k hk
        rw [ownS_key hV k hk]
        omega
      rintro v ns ⟨cz, Mz, gz, z1, z2, z3, rfl, rfl⟩
      refine GL_walk 2 [] rfl (by simp) (by kernel_rfl) ?_; intro q hq; simp [hC, hY, putT, updL]; refine hq _ _ _ _ ?_; clear hq q
      simp only [wT, List.length_cons, List.length_nil, Nat.reduceAdd]
      refine GL_nil ?_
      repeat' (first | apply gwS | simp only [wN, wM, Nat.reduceAdd, Nat.reduceMul] | ((first | refine gwR [] ?_ | refine gwD [] ?_); intro Q hQ hP; simp [hC, hY, hA, hS, hne]; (first | refine hQ _ _ _ _ (by kernel_rfl) ?_ | refine hP _ _ (by kernel_rfl) fun _ => ?_); clear hQ hP Q) | apply gwB | apply gwT | apply gwK | apply gwE | apply gwG | apply gwL | simp only [blockG_exit] | (refine gwC ?_ ?_ <;> (intro hb; first | (cases hb; done) | skip)))
      refine GWL_start ?_
      refine GWL_weak (weakLL [(5, .pointer (some ⟨200, 0, none⟩)), (6, .pointer (some ⟨208, 0, none⟩)), (9, .pointer (some ⟨216, 0, none⟩)), (10, .bool false), (11, .int .i64 n), (14, .pointer (some ⟨896, 0, none⟩)), (15, .int .i64 E), (20, .pointer (some ⟨1240, 0, none⟩)), (21, .int .i64 0)] 2000 hC G0F (m := [(200, ⟨#[.slice (some ⟨100, off, none⟩) n cap, .int .i64 g, .int .i64 bx, .int .i64 tp, .int .i64 nr, .int .i64 md], .ty 36⟩), (208, ⟨#[.int .i64 st, .slice (some ⟨ks, off2, none⟩) n cap2], .ty 39⟩), (216, ⟨#[.int .i64 w0, .int .i64 w1, .int .i64 w2], .ty 41⟩), (896, ⟨#[.int .u64 (wi lo 0), .int .u64 (wi lo 1), .int .u64 (wi lo 2), .int .u64 (wi lo 3), .int .u64 (wi hh 0), .int .u64 (wi hh 1), .int .u64 (wi hh 2), .int .u64 (wi hh 3)], .ty 48⟩), (1232, ⟨fa Mz .i64 (shF gz (w3 w0 w1 w2) n 0 0), .ty 46⟩), (1240, ⟨#[.int .i64 st, .slice (some ⟨1232, 0, none⟩) n cz], .ty 39⟩)]) hT.ok hT.fx hC0 (by omega) ?_ ?_ ?_) ?_
      · simp [idsV, idsA, idsF, ids0, dom, putT, updL]
      · simp [shF_0, ids_lit, idsF, ids0, dom, hA, hS, hne, Blk.fx_ids (fa_fx _ _ _), putT, updL]
      · (intro p hp; have hpb := hT.ok.big p hp; (try dsimp only); simp (disch := omega) only [addB, upd_other, hpL_cons, hpL_nil, if_neg, updL, List.cons_append, List.nil_append]; first | exact hT.mem p hp | exact cL p hp)
      simp only [List.cons_append, List.nil_append]
      refine GWL_step ?_
      by_cases ja0 : w0 < -1048576
      · 
        repeat' (first | apply gwS | simp only [wN, wM, Nat.reduceAdd, Nat.reduceMul] | ((first | refine gwR [] ?_ | refine gwD [] ?_); intro Q hQ hP; simp [hC, hY, hA, hS, hne, ja0, wk]; (first | refine hQ _ _ _ _ (by kernel_rfl) ?_ | refine hP _ _ (by kernel_rfl) fun _ => ?_); clear hQ hP Q) | apply gwB | apply gwT | apply gwK | apply gwE | apply gwG | apply gwL | simp only [blockG_exit] | (refine gwC ?_ ?_ <;> (intro hb; first | (cases hb; done) | skip)))
        refine ⟨.inr rfl, by simp [Tryd.results4], keep_of G0F (by (intro p hp; have hpb := hT.ok.big p hp; first | rfl | (simp (disch := omega) only [addB, upd_other, hpL_cons, hpL_nil, if_neg, updL, List.cons_append, List.nil_append] <;> done))) (by (intro k hk; first | exact hLow k hk | (simp (disch := omega) only [hLow, addB, List.mem_cons, List.not_mem_nil, or_false, upd_other, hpL_cons, hpL_nil, if_neg, updL, List.cons_append, List.nil_append] <;> done)))⟩
      by_cases jb0 : 1048576 < w0
      · 
        repeat' (first | apply gwS | simp only [wN, wM, Nat.reduceAdd, Nat.reduceMul] | ((first | refine gwR [] ?_ | refine gwD [] ?_); intro Q hQ hP; simp [hC, hY, hA, hS, hne, ja0, jb0, wk]; (first | refine hQ _ _ _ _ (by kernel_rfl) ?_ | refine hP _ _ (by kernel_rfl) fun _ => ?_); clear hQ hP Q) | apply gwB | apply gwT | apply gwK | apply gwE | apply gwG | apply gwL | simp only [blockG_exit] | (refine gwC ?_ ?_ <;> (intro hb; first | (cases hb; done) | skip)))
        refine ⟨.inr rfl, by simp [Tryd.results4], keep_of G0F (by (intro p hp; have hpb := hT.ok.big p hp; first | rfl | (simp (disch := omega) only [addB, upd_other, hpL_cons, hpL_nil, if_neg, updL, List.cons_append, List.nil_append] <;> done))) (by (intro k hk; first | exact hLow k hk | (simp (disch := omega) only [hLow, addB, List.mem_cons, List.not_mem_nil, or_false, upd_other, hpL_cons, hpL_nil, if_neg, updL, List.cons_append, List.nil_append] <;> done)))⟩
      repeat' (first | apply gwS | simp only [wN, wM, Nat.reduceAdd, Nat.reduceMul] | ((first | refine gwR [] ?_ | refine gwD [] ?_); intro Q hQ hP; simp [hC, hY, hA, hS, hne, ja0, jb0]; (first | refine hQ _ _ _ _ (by kernel_rfl) ?_ | refine hP _ _ (by kernel_rfl) fun _ => ?_); clear hQ hP Q) | apply gwB | apply gwT | apply gwK | apply gwE | apply gwG | apply gwL | simp only [blockG_exit] | (refine gwC ?_ ?_ <;> (intro hb; first | (cases hb; done) | skip)))
      refine GW_for n (eshSt L ks g bx tp nr md st w0 w1 w2 lo hh E off n cap off2 cap2 cz Mz gz 0) ?_ ?_ ?_
      · refine weakLL _ 2000 hC G0F hT.ok hT.fx hC0 (by omega) ?_ ?_ ?_
        · simp [idsV, idsA, idsF, ids0, dom]
        · simp [ids_lit, idsF, ids0, dom, hA, hS, hne, Blk.fx_ids (fa_fx _ _ _), putT, updL]
        · (intro p hp; have hpb := hT.ok.big p hp; (try dsimp only); simp (disch := omega) only [addB, upd_other, hpL_cons, hpL_nil, if_neg, updL, List.cons_append, List.nil_append]; first | exact hT.mem p hp | exact cL p hp)
      · intro i hi
        have hi1 : (i : Int) < n := Int.ofNat_lt.2 hi
        have hz : (0 : Int) ≤ i := Int.natCast_nonneg i
        have hs1 := sh_succ hi hnn
        have hix := ix_le (u := 0) hi z2 (by decide)
        have hM : i * 6 + 1 ≤ Mz := hix.1
        have hv0 : gz (6 * i) = fs (6 * i) := z3 _ hix.2.2
        have hsum : Int.bmod (gz (6 * i) + w0) 18446744073709551616 = gz (6 * i) + w0 := sh_sum r hi (u := 0) (by decide) hv0 ja0 jb0
        have hold := shF_old gz (w3 w0 w1 w2) (n := n) (j := 0) (i := i) (by omega)
        have hput := shF_put gz (w3 w0 w1 w2) (n := n) (j := 0) (i := i) (by omega)
        have hld := fa_int (M := Mz) (g := shF gz (w3 w0 w1 w2) n 0 i) (q := i * 6) hix.2.1
        (try simp only [Nat.add_zero] at hold hput)
        rw [show (w3 w0 w1 w2 0) = w0 from rfl] at hput
        rw [show shF gz (w3 w0 w1 w2) n 0 i (i * 6) = gz (6 * i) by rw [show i * 6 = 6 * i + 0 from ix_eq i 0]; exact hold] at hld
        have hst : (fa Mz .i64 (shF gz (w3 w0 w1 w2) n 0 i)).setIfInBounds (i * 6) (.int .i64 (gz (6 * i) + w0)) = fa Mz .i64 (shF gz (w3 w0 w1 w2) n 0 (i + 1)) := by
          rw [fa_set, show i * 6 = 6 * i + 0 from ix_eq i 0]
          exact congrArg _ hput
        unfold eshSt
        repeat' (first | apply gwS | simp only [wN, wM, Nat.reduceAdd, Nat.reduceMul] | ((first | refine gwR [] ?_ | refine gwD [] ?_); intro Q hQ hP; simp [hC, hY, hA, hS, hne, hi1, hz, hs1, hld, hM, hsum]; (first | refine hQ _ _ _ _ (by kernel_rfl) ?_ | refine hP _ _ (by kernel_rfl) fun _ => ?_); clear hQ hP Q) | apply gwB | apply gwT | apply gwK | apply gwE | apply gwG | apply gwL | simp only [blockG_exit] | (refine gwC ?_ ?_ <;> (intro hb; first | (cases hb; done) | skip)))
        refine weakLL _ 2000 hC G0F hT.ok hT.fx hC0 (by omega) ?_ ?_ ?_
        · simp [idsV, idsA, idsF, ids0, dom, hs1]
        · simp [hst, ids_lit, idsF, ids0, dom, hA, hS, hne, Blk.fx_ids (fa_fx _ _ _), putT, updL]
        · (intro p hp; have hpb := hT.ok.big p hp; (try dsimp only); simp (disch := omega) only [addB, upd_other, hpL_cons, hpL_nil, if_neg, updL, List.cons_append, List.nil_append]; first | exact hT.mem p hp | exact cL p hp)
      · unfold eshSt
        repeat' (first | apply gwS | simp only [wN, wM, Nat.reduceAdd, Nat.reduceMul] | ((first | refine gwR [] ?_ | refine gwD [] ?_); intro Q hQ hP; simp [hC, hY, hA, hS, hne]; (first | refine hQ _ _ _ _ (by kernel_rfl) ?_ | refine hP _ _ (by kernel_rfl) fun _ => ?_); clear hQ hP Q) | apply gwB | apply gwT | apply gwK | apply gwE | apply gwG | apply gwL | simp only [blockG_exit] | (refine gwC ?_ ?_ <;> (intro hb; first | (cases hb; done) | skip)))
        refine GWL_weak (weakLL [(5, .pointer (some ⟨200, 0, none⟩)), (6, .pointer (some ⟨208, 0, none⟩)), (9, .pointer (some ⟨216, 0, none⟩)), (10, .bool false), (11, .int .i64 n), (14, .pointer (some ⟨896, 0, none⟩)), (15, .int .i64 E), (20, .pointer (some ⟨1240, 0, none⟩)), (21, .int .i64 1)] 2000 hC G0F (m := [(200, ⟨#[.slice (some ⟨100, off, none⟩) n cap, .int .i64 g, .int .i64 bx, .int .i64 tp, .int .i64 nr, .int .i64 md], .ty 36⟩), (208, ⟨#[.int .i64 st, .slice (some ⟨ks, off2, none⟩) n cap2], .ty 39⟩), (216, ⟨#[.int .i64 w0, .int .i64 w1, .int .i64 w2], .ty 41⟩), (896, ⟨#[.int .u64 (wi lo 0), .int .u64 (wi lo 1), .int .u64 (wi lo 2), .int .u64 (wi lo 3), .int .u64 (wi hh 0), .int .u64 (wi hh 1), .int .u64 (wi hh 2), .int .u64 (wi hh 3)], .ty 48⟩), (1232, ⟨fa Mz .i64 (shF gz (w3 w0 w1 w2) n 1 0), .ty 46⟩), (1240, ⟨#[.int .i64 st, .slice (some ⟨1232, 0, none⟩) n cz], .ty 39⟩)]) hT.ok hT.fx hC0 (by omega) ?_ ?_ ?_) ?_
        · simp [idsV, idsA, idsF, ids0, dom, putT, updL]
        · simp [shF_next, ids_lit, idsF, ids0, dom, hA, hS, hne, Blk.fx_ids (fa_fx _ _ _), putT, updL]
        · (intro p hp; have hpb := hT.ok.big p hp; (try dsimp only); simp (disch := omega) only [addB, upd_other, hpL_cons, hpL_nil, if_neg, updL, List.cons_append, List.nil_append]; first | exact hT.mem p hp | exact cL p hp)
        simp only [List.cons_append, List.nil_append]
        refine GWL_step ?_
        by_cases ja1 : w1 < -1048576
        · 
          repeat' (first | apply gwS | simp only [wN, wM, Nat.reduceAdd, Nat.reduceMul] | ((first | refine gwR [] ?_ | refine gwD [] ?_); intro Q hQ hP; simp [hC, hY, hA, hS, hne, ja1, wk]; (first | refine hQ _ _ _ _ (by kernel_rfl) ?_ | refine hP _ _ (by kernel_rfl) fun _ => ?_); clear hQ hP Q) | apply gwB | apply gwT | apply gwK | apply gwE | apply gwG | apply gwL | simp only [blockG_exit] | (refine gwC ?_ ?_ <;> (intro hb; first | (cases hb; done) | skip)))
          refine ⟨.inr rfl, by simp [Tryd.results4], keep_of G0F (by (intro p hp; have hpb := hT.ok.big p hp; first | rfl | (simp (disch := omega) only [addB, upd_other, hpL_cons, hpL_nil, if_neg, updL, List.cons_append, List.nil_append] <;> done))) (by (intro k hk; first | exact hLow k hk | (simp (disch := omega) only [hLow, addB, List.mem_cons, List.not_mem_nil, or_false, upd_other, hpL_cons, hpL_nil, if_neg, updL, List.cons_append, List.nil_append] <;> done)))⟩
        by_cases jb1 : 1048576 < w1
        · 
          repeat' (first | apply gwS | simp only [wN, wM, Nat.reduceAdd, Nat.reduceMul] | ((first | refine gwR [] ?_ | refine gwD [] ?_); intro Q hQ hP; simp [hC, hY, hA, hS, hne, ja1, jb1, wk]; (first | refine hQ _ _ _ _ (by kernel_rfl) ?_ | refine hP _ _ (by kernel_rfl) fun _ => ?_); clear hQ hP Q) | apply gwB | apply gwT | apply gwK | apply gwE | apply gwG | apply gwL | simp only [blockG_exit] | (refine gwC ?_ ?_ <;> (intro hb; first | (cases hb; done) | skip)))
          refine ⟨.inr rfl, by simp [Tryd.results4], keep_of G0F (by (intro p hp; have hpb := hT.ok.big p hp; first | rfl | (simp (disch := omega) only [addB, upd_other, hpL_cons, hpL_nil, if_neg, updL, List.cons_append, List.nil_append] <;> done))) (by (intro k hk; first | exact hLow k hk | (simp (disch := omega) only [hLow, addB, List.mem_cons, List.not_mem_nil, or_false, upd_other, hpL_cons, hpL_nil, if_neg, updL, List.cons_append, List.nil_append] <;> done)))⟩
        repeat' (first | apply gwS | simp only [wN, wM, Nat.reduceAdd, Nat.reduceMul] | ((first | refine gwR [] ?_ | refine gwD [] ?_); intro Q hQ hP; simp [hC, hY, hA, hS, hne, ja1, jb1]; (first | refine hQ _ _ _ _ (by kernel_rfl) ?_ | refine hP _ _ (by kernel_rfl) fun _ => ?_); clear hQ hP Q) | apply gwB | apply gwT | apply gwK | apply gwE | apply gwG | apply gwL | simp only [blockG_exit] | (refine gwC ?_ ?_ <;> (intro hb; first | (cases hb; done) | skip)))
        refine GW_for n (eshSt L ks g bx tp nr md st w0 w1 w2 lo hh E off n cap off2 cap2 cz Mz gz 1) ?_ ?_ ?_
        · refine weakLL _ 2000 hC G0F hT.ok hT.fx hC0 (by omega) ?_ ?_ ?_
          · simp [idsV, idsA, idsF, ids0, dom]
          · simp [ids_lit, idsF, ids0, dom, hA, hS, hne, Blk.fx_ids (fa_fx _ _ _), putT, updL]
          · (intro p hp; have hpb := hT.ok.big p hp; (try dsimp only); simp (disch := omega) only [addB, upd_other, hpL_cons, hpL_nil, if_neg, updL, List.cons_append, List.nil_append]; first | exact hT.mem p hp | exact cL p hp)
        · intro i hi
          have hi1 : (i : Int) < n := Int.ofNat_lt.2 hi
          have hz : (0 : Int) ≤ i := Int.natCast_nonneg i
          have hs1 := sh_succ hi hnn
          have hix := ix_le (u := 1) hi z2 (by decide)
          have hM : i * 6 + 1 + 1 ≤ Mz := hix.1
          have hv0 : gz (6 * i + 1) = fs (6 * i + 1) := z3 _ hix.2.2
          have hsum : Int.bmod (gz (6 * i + 1) + w1) 18446744073709551616 = gz (6 * i + 1) + w1 := sh_sum r hi (u := 1) (by decide) hv0 ja1 jb1
          have hold := shF_old gz (w3 w0 w1 w2) (n := n) (j := 1) (i := i) (by omega)
          have hput := shF_put gz (w3 w0 w1 w2) (n := n) (j := 1) (i := i) (by omega)
          have hld := fa_int (M := Mz) (g := shF gz (w3 w0 w1 w2) n 1 i) (q := i * 6 + 1) hix.2.1
          (try simp only [Nat.add_zero] at hold hput)
          rw [show (w3 w0 w1 w2 1) = w1 from rfl] at hput
          rw [show shF gz (w3 w0 w1 w2) n 1 i (i * 6 + 1) = gz (6 * i + 1) by rw [show i * 6 + 1 = 6 * i + 1 from ix_eq i 1]; exact hold] at hld
          have hst : (fa Mz .i64 (shF gz (w3 w0 w1 w2) n 1 i)).setIfInBounds (i * 6 + 1) (.int .i64 (gz (6 * i + 1) + w1)) = fa Mz .i64 (shF gz (w3 w0 w1 w2) n 1 (i + 1)) := by
            rw [fa_set, show i * 6 + 1 = 6 * i + 1 from ix_eq i 1]
            exact congrArg _ hput
          unfold eshSt
          repeat' (first | apply gwS | simp only [wN, wM, Nat.reduceAdd, Nat.reduceMul] | ((first | refine gwR [] ?_ | refine gwD [] ?_); intro Q hQ hP; simp [hC, hY, hA, hS, hne, hi1, hz, hs1, hld, hM, hsum]; (first | refine hQ _ _ _ _ (by kernel_rfl) ?_ | refine hP _ _ (by kernel_rfl) fun _ => ?_); clear hQ hP Q) | apply gwB | apply gwT | apply gwK | apply gwE | apply gwG | apply gwL | simp only [blockG_exit] | (refine gwC ?_ ?_ <;> (intro hb; first | (cases hb; done) | skip)))
          refine weakLL _ 2000 hC G0F hT.ok hT.fx hC0 (by omega) ?_ ?_ ?_
          · simp [idsV, idsA, idsF, ids0, dom, hs1]
          · simp [hst, ids_lit, idsF, ids0, dom, hA, hS, hne, Blk.fx_ids (fa_fx _ _ _), putT, updL]
          · (intro p hp; have hpb := hT.ok.big p hp; (try dsimp only); simp (disch := omega) only [addB, upd_other, hpL_cons, hpL_nil, if_neg, updL, List.cons_append, List.nil_append]; first | exact hT.mem p hp | exact cL p hp)
        · unfold eshSt
          repeat' (first | apply gwS | simp only [wN, wM, Nat.reduceAdd, Nat.reduceMul] | ((first | refine gwR [] ?_ | refine gwD [] ?_); intro Q hQ hP; simp [hC, hY, hA, hS, hne]; (first | refine hQ _ _ _ _ (by kernel_rfl) ?_ | refine hP _ _ (by kernel_rfl) fun _ => ?_); clear hQ hP Q) | apply gwB | apply gwT | apply gwK | apply gwE | apply gwG | apply gwL | simp only [blockG_exit] | (refine gwC ?_ ?_ <;> (intro hb; first | (cases hb; done) | skip)))
          refine GWL_weak (weakLL [(5, .pointer (some ⟨200, 0, none⟩)), (6, .pointer (some ⟨208, 0, none⟩)), (9, .pointer (some ⟨216, 0, none⟩)), (10, .bool false), (11, .int .i64 n), (14, .pointer (some ⟨896, 0, none⟩)), (15, .int .i64 E), (20, .pointer (some ⟨1240, 0, none⟩)), (21, .int .i64 2)] 2000 hC G0F (m := [(200, ⟨#[.slice (some ⟨100, off, none⟩) n cap, .int .i64 g, .int .i64 bx, .int .i64 tp, .int .i64 nr, .int .i64 md], .ty 36⟩), (208, ⟨#[.int .i64 st, .slice (some ⟨ks, off2, none⟩) n cap2], .ty 39⟩), (216, ⟨#[.int .i64 w0, .int .i64 w1, .int .i64 w2], .ty 41⟩), (896, ⟨#[.int .u64 (wi lo 0), .int .u64 (wi lo 1), .int .u64 (wi lo 2), .int .u64 (wi lo 3), .int .u64 (wi hh 0), .int .u64 (wi hh 1), .int .u64 (wi hh 2), .int .u64 (wi hh 3)], .ty 48⟩), (1232, ⟨fa Mz .i64 (shF gz (w3 w0 w1 w2) n 2 0), .ty 46⟩), (1240, ⟨#[.int .i64 st, .slice (some ⟨1232, 0, none⟩) n cz], .ty 39⟩)]) hT.ok hT.fx hC0 (by omega) ?_ ?_ ?_) ?_
          · simp [idsV, idsA, idsF, ids0, dom, putT, updL]
          · simp [shF_next, ids_lit, idsF, ids0, dom, hA, hS, hne, Blk.fx_ids (fa_fx _ _ _), putT, updL]
          · (intro p hp; have hpb := hT.ok.big p hp; (try dsimp only); simp (disch := omega) only [addB, upd_other, hpL_cons, hpL_nil, if_neg, updL, List.cons_append, List.nil_append]; first | exact hT.mem p hp | exact cL p hp)
          simp only [List.cons_append, List.nil_append]
          refine GWL_step ?_
          by_cases ja2 : w2 < -1048576
          · 
            repeat' (first | apply gwS | simp only [wN, wM, Nat.reduceAdd, Nat.reduceMul] | ((first | refine gwR [] ?_ | refine gwD [] ?_); intro Q hQ hP; simp [hC, hY, hA, hS, hne, ja2, wk]; (first | refine hQ _ _ _ _ (by kernel_rfl) ?_ | refine hP _ _ (by kernel_rfl) fun _ => ?_); clear hQ hP Q) | apply gwB | apply gwT | apply gwK | apply gwE | apply gwG | apply gwL | simp only [blockG_exit] | (refine gwC ?_ ?_ <;> (intro hb; first | (cases hb; done) | skip)))
            refine ⟨.inr rfl, by simp [Tryd.results4], keep_of G0F (by (intro p hp; have hpb := hT.ok.big p hp; first | rfl | (simp (disch := omega) only [addB, upd_other, hpL_cons, hpL_nil, if_neg, updL, List.cons_append, List.nil_append] <;> done))) (by (intro k hk; first | exact hLow k hk | (simp (disch := omega) only [hLow, addB, List.mem_cons, List.not_mem_nil, or_false, upd_other, hpL_cons, hpL_nil, if_neg, updL, List.cons_append, List.nil_append] <;> done)))⟩
          by_cases jb2 : 1048576 < w2
          · 
            repeat' (first | apply gwS | simp only [wN, wM, Nat.reduceAdd, Nat.reduceMul] | ((first | refine gwR [] ?_ | refine gwD [] ?_); intro Q hQ hP; simp [hC, hY, hA, hS, hne, ja2, jb2, wk]; (first | refine hQ _ _ _ _ (by kernel_rfl) ?_ | refine hP _ _ (by kernel_rfl) fun _ => ?_); clear hQ hP Q) | apply gwB | apply gwT | apply gwK | apply gwE | apply gwG | apply gwL | simp only [blockG_exit] | (refine gwC ?_ ?_ <;> (intro hb; first | (cases hb; done) | skip)))
            refine ⟨.inr rfl, by simp [Tryd.results4], keep_of G0F (by (intro p hp; have hpb := hT.ok.big p hp; first | rfl | (simp (disch := omega) only [addB, upd_other, hpL_cons, hpL_nil, if_neg, updL, List.cons_append, List.nil_append] <;> done))) (by (intro k hk; first | exact hLow k hk | (simp (disch := omega) only [hLow, addB, List.mem_cons, List.not_mem_nil, or_false, upd_other, hpL_cons, hpL_nil, if_neg, updL, List.cons_append, List.nil_append] <;> done)))⟩
          repeat' (first | apply gwS | simp only [wN, wM, Nat.reduceAdd, Nat.reduceMul] | ((first | refine gwR [] ?_ | refine gwD [] ?_); intro Q hQ hP; simp [hC, hY, hA, hS, hne, ja2, jb2]; (first | refine hQ _ _ _ _ (by kernel_rfl) ?_ | refine hP _ _ (by kernel_rfl) fun _ => ?_); clear hQ hP Q) | apply gwB | apply gwT | apply gwK | apply gwE | apply gwG | apply gwL | simp only [blockG_exit] | (refine gwC ?_ ?_ <;> (intro hb; first | (cases hb; done) | skip)))
          refine GW_for n (eshSt L ks g bx tp nr md st w0 w1 w2 lo hh E off n cap off2 cap2 cz Mz gz 2) ?_ ?_ ?_
          · refine weakLL _ 2000 hC G0F hT.ok hT.fx hC0 (by omega) ?_ ?_ ?_
            · simp [idsV, idsA, idsF, ids0, dom]
            · simp [ids_lit, idsF, ids0, dom, hA, hS, hne, Blk.fx_ids (fa_fx _ _ _), putT, updL]
            · (intro p hp; have hpb := hT.ok.big p hp; (try dsimp only); simp (disch := omega) only [addB, upd_other, hpL_cons, hpL_nil, if_neg, updL, List.cons_append, List.nil_append]; first | exact hT.mem p hp | exact cL p hp)
          · intro i hi
            have hi1 : (i : Int) < n := Int.ofNat_lt.2 hi
            have hz : (0 : Int) ≤ i := Int.natCast_nonneg i
            have hs1 := sh_succ hi hnn
            have hix := ix_le (u := 2) hi z2 (by decide)
            have hM : i * 6 + 2 + 1 ≤ Mz := hix.1
            have hv0 : gz (6 * i + 2) = fs (6 * i + 2) := z3 _ hix.2.2
            have hsum : Int.bmod (gz (6 * i + 2) + w2) 18446744073709551616 = gz (6 * i + 2) + w2 := sh_sum r hi (u := 2) (by decide) hv0 ja2 jb2
            have hold := shF_old gz (w3 w0 w1 w2) (n := n) (j := 2) (i := i) (by omega)
            have hput := shF_put gz (w3 w0 w1 w2) (n := n) (j := 2) (i := i) (by omega)
            have hld := fa_int (M := Mz) (g := shF gz (w3 w0 w1 w2) n 2 i) (q := i * 6 + 2) hix.2.1
            (try simp only [Nat.add_zero] at hold hput)
            rw [show (w3 w0 w1 w2 2) = w2 from rfl] at hput
            rw [show shF gz (w3 w0 w1 w2) n 2 i (i * 6 + 2) = gz (6 * i + 2) by rw [show i * 6 + 2 = 6 * i + 2 from ix_eq i 2]; exact hold] at hld
            have hst : (fa Mz .i64 (shF gz (w3 w0 w1 w2) n 2 i)).setIfInBounds (i * 6 + 2) (.int .i64 (gz (6 * i + 2) + w2)) = fa Mz .i64 (shF gz (w3 w0 w1 w2) n 2 (i + 1)) := by
              rw [fa_set, show i * 6 + 2 = 6 * i + 2 from ix_eq i 2]
              exact congrArg _ hput
            unfold eshSt
            repeat' (first | apply gwS | simp only [wN, wM, Nat.reduceAdd, Nat.reduceMul] | ((first | refine gwR [] ?_ | refine gwD [] ?_); intro Q hQ hP; simp [hC, hY, hA, hS, hne, hi1, hz, hs1, hld, hM, hsum]; (first | refine hQ _ _ _ _ (by kernel_rfl) ?_ | refine hP _ _ (by kernel_rfl) fun _ => ?_); clear hQ hP Q) | apply gwB | apply gwT | apply gwK | apply gwE | apply gwG | apply gwL | simp only [blockG_exit] | (refine gwC ?_ ?_ <;> (intro hb; first | (cases hb; done) | skip)))
            refine weakLL _ 2000 hC G0F hT.ok hT.fx hC0 (by omega) ?_ ?_ ?_
            · simp [idsV, idsA, idsF, ids0, dom, hs1]
            · simp [hst, ids_lit, idsF, ids0, dom, hA, hS, hne, Blk.fx_ids (fa_fx _ _ _), putT, updL]
            · (intro p hp; have hpb := hT.ok.big p hp; (try dsimp only); simp (disch := omega) only [addB, upd_other, hpL_cons, hpL_nil, if_neg, updL, List.cons_append, List.nil_append]; first | exact hT.mem p hp | exact cL p hp)
          · unfold eshSt
            repeat' (first | apply gwS | simp only [wN, wM, Nat.reduceAdd, Nat.reduceMul] | ((first | refine gwR [] ?_ | refine gwD [] ?_); intro Q hQ hP; simp [hC, hY, hA, hS, hne]; (first | refine hQ _ _ _ _ (by kernel_rfl) ?_ | refine hP _ _ (by kernel_rfl) fun _ => ?_); clear hQ hP Q) | apply gwB | apply gwT | apply gwK | apply gwE | apply gwG | apply gwL | simp only [blockG_exit] | (refine gwC ?_ ?_ <;> (intro hb; first | (cases hb; done) | skip)))
            refine GWL_weak (weakLL [(5, .pointer (some ⟨200, 0, none⟩)), (6, .pointer (some ⟨208, 0, none⟩)), (9, .pointer (some ⟨216, 0, none⟩)), (10, .bool false), (11, .int .i64 n), (14, .pointer (some ⟨896, 0, none⟩)), (15, .int .i64 E), (20, .pointer (some ⟨1240, 0, none⟩)), (21, .int .i64 3)] 2000 hC G0F (m := [(200, ⟨#[.slice (some ⟨100, off, none⟩) n cap, .int .i64 g, .int .i64 bx, .int .i64 tp, .int .i64 nr, .int .i64 md], .ty 36⟩), (208, ⟨#[.int .i64 st, .slice (some ⟨ks, off2, none⟩) n cap2], .ty 39⟩), (216, ⟨#[.int .i64 w0, .int .i64 w1, .int .i64 w2], .ty 41⟩), (896, ⟨#[.int .u64 (wi lo 0), .int .u64 (wi lo 1), .int .u64 (wi lo 2), .int .u64 (wi lo 3), .int .u64 (wi hh 0), .int .u64 (wi hh 1), .int .u64 (wi hh 2), .int .u64 (wi hh 3)], .ty 48⟩), (1232, ⟨fa Mz .i64 (shF gz (w3 w0 w1 w2) n 3 0), .ty 46⟩), (1240, ⟨#[.int .i64 st, .slice (some ⟨1232, 0, none⟩) n cz], .ty 39⟩)]) hT.ok hT.fx hC0 (by omega) ?_ ?_ ?_) ?_
            · simp [idsV, idsA, idsF, ids0, dom, putT, updL]
            · simp [shF_next, ids_lit, idsF, ids0, dom, hA, hS, hne, Blk.fx_ids (fa_fx _ _ _), putT, updL]
            · (intro p hp; have hpb := hT.ok.big p hp; (try dsimp only); simp (disch := omega) only [addB, upd_other, hpL_cons, hpL_nil, if_neg, updL, List.cons_append, List.nil_append]; first | exact hT.mem p hp | exact cL p hp)
            simp only [List.cons_append, List.nil_append]
            refine GWL_step ?_
            have hw3 : ∀ u, u < 3 → -1048576 ≤ w3 w0 w1 w2 u ∧ w3 w0 w1 w2 u ≤ 1048576 := fun u hu => by
              unfold w3
              split
              · omega
              · split <;> omega
            have hZ := own_sb (n := n) (M := Mz) (g := shF gz (w3 w0 w1 w2) n 3 0) z2 (shF_congr z3) (sh_i64 hSb.i6 r hw3) hnn
            have hE4 := eEnergy_L _ 108 bm _ (LTwo.two (G := G0) hm.fx hZ.fx) off n cap 0 n cz fm _ hm hZ hcap z1 g bx tp nr md st hs
            have hrz := rig10_fun _ 0 n cz _ hZ st
            cases r2 : rightB st (shF fs (w3 w0 w1 w2) n 3 0) n with
            | true =>
              rw [enV_sh c r r2, hR] at hE4
              rw [r2] at hrz
              unfold cfV spV at hE4
              repeat' (first | apply gwS | simp only [wN, wM, Nat.reduceAdd, Nat.reduceMul] | ((first | refine gwR [15, 17] ?_ | refine gwD [15, 17] ?_); intro Q hQ hP; simp [hC, hY, hA, hS, hne, wk]; (repeat ((first | (refine heapK_mv hE4 G0F (B := 200) (LTwo.two (G := G0) hm.fx hZ.fx).ok (fun k => if k = 108 then 1232 else k) (fun k hk => if_neg (by omega)) (by simp [ren, renA, renF, ren0]) (by simp) (by simp [hrm, fa_rn, hA]) (by simp [keys]) (by simp [keys]; rfl) ?_) | (refine heapK_mv hrz G0F (B := 200) (oneL_ok hZ.fx) (fun k => if k = 100 then 1232 else k) (fun k hk => if_neg (by omega)) (by simp [ren, renA, renF, ren0]) (by simp) (by simp [fa_rn]) (by simp [keys]) (by simp [keys]; rfl) ?_)); try simp [hC, hY, hA, hS, hne, wk])); (first | refine hQ _ _ _ _ (by kernel_rfl) ?_ | refine hP _ _ (by kernel_rfl) fun _ => ?_); clear hQ hP Q) | apply gwB | apply gwT | apply gwK | apply gwE | apply gwG | apply gwL | simp only [blockG_exit] | (refine gwC ?_ ?_ <;> (intro hb; first | (cases hb; done) | skip)))
              refine ⟨.inr rfl, by simp [Tryd.results4], keep_of G0F (by (intro p hp; have hpb := hT.ok.big p hp; first | rfl | (simp (disch := omega) only [addB, upd_other, hpL_cons, hpL_nil, if_neg, updL, List.cons_append, List.nil_append] <;> done))) (by (intro k hk; first | exact hLow k hk | (simp (disch := omega) only [hLow, addB, List.mem_cons, List.not_mem_nil, or_false, upd_other, hpL_cons, hpL_nil, if_neg, updL, List.cons_append, List.nil_append] <;> done)))⟩
            | false =>
              obtain ⟨lo2, hh2, E2, hR2⟩ : ∃ lo hh E, enV n n fm (shF fs (w3 w0 w1 w2) n 3 0) g bx tp nr md st = .tuple #[spV lo hh, .int .i64 E] := ⟨_, _, _, rfl⟩
              rw [hR2] at hE4
              rw [r2] at hrz
              unfold cfV spV at hE4
              repeat' (first | apply gwS | simp only [wN, wM, Nat.reduceAdd, Nat.reduceMul] | ((first | refine gwR [15, 17] ?_ | refine gwD [15, 17] ?_); intro Q hQ hP; simp [hC, hY, hA, hS, hne, wk]; (repeat ((first | (refine heapK_mv hE4 G0F (B := 200) (LTwo.two (G := G0) hm.fx hZ.fx).ok (fun k => if k = 108 then 1232 else k) (fun k hk => if_neg (by omega)) (by simp [ren, renA, renF, ren0]) (by simp) (by simp [hrm, fa_rn, hA]) (by simp [keys]) (by simp [keys]; rfl) ?_) | (refine heapK_mv hrz G0F (B := 200) (oneL_ok hZ.fx) (fun k => if k = 100 then 1232 else k) (fun k hk => if_neg (by omega)) (by simp [ren, renA, renF, ren0]) (by simp) (by simp [fa_rn]) (by simp [keys]) (by simp [keys]; rfl) ?_)); try simp [hC, hY, hA, hS, hne, wk])); (first | refine hQ _ _ _ _ (by kernel_rfl) ?_ | refine hP _ _ (by kernel_rfl) fun _ => ?_); clear hQ hP Q) | apply gwB | apply gwT | apply gwK | apply gwE | apply gwG | apply gwL | simp only [blockG_exit] | (refine gwC ?_ ?_ <;> (intro hb; first | (cases hb; done) | skip)))
              refine ⟨.inr rfl, by simp [Tryd.results4], keep_of G0F (by (intro p hp; have hpb := hT.ok.big p hp; first | rfl | (simp (disch := omega) only [addB, upd_other, hpL_cons, hpL_nil, if_neg, updL, List.cons_append, List.nil_append] <;> done))) (by (intro k hk; first | exact hLow k hk | (simp (disch := omega) only [hLow, addB, List.mem_cons, List.not_mem_nil, or_false, upd_other, hpL_cons, hpL_nil, if_neg, updL, List.cons_append, List.nil_append] <;> done)))⟩
    · have hlt : i < 10 := by
        have := (Array.getElem?_eq_some_iff.1 hi).1
        rw [szR] at this
        simpa using this
      obtain ⟨ct, Mt, gt, hinv, h⟩ := h
      obtain rfl | rfl | rfl | rfl | rfl | rfl | rfl | rfl | rfl | rfl : i = 0 ∨ i = 1 ∨ i = 2 ∨ i = 3 ∨ i = 4 ∨ i = 5 ∨ i = 6 ∨ i = 7 ∨ i = 8 ∨ i = 9 := by omega
      · -- 0
        have vx5 : ts 5 = .pointer (some ⟨200, 0, none⟩) := (h.t0 5 (by decide)).trans hF.e5
        have y200 : hp 200 = some (⟨#[.slice (some ⟨100, off, none⟩) n cap, .int .i64 g, .int .i64 bx, .int .i64 tp, .int .i64 nr, .int .i64 md], .ty 36⟩) := (h.ext (by decide)).trans hF.b200
        refine GO_walk [] rfl (by kernel_rfl) (by first | assumption | simp) ?_; intro q hq; simp [hC, hY, vx5, y200]; refine hq _ _ _ _ ?_; clear hq q
        exact hk _ _ ⟨ct, Mt, gt, hinv, (h.tmp s0N1 s0N2 hi (by simp [s0D]) (i := 0) (t := 105) (by decide) rfl (by decide))⟩
      · -- 1
        have vx6 : ts 6 = .pointer (some ⟨208, 0, none⟩) := (h.t0 6 (by decide)).trans hF.e6
        have y208 : hp 208 = some (⟨#[.int .i64 st, .slice (some ⟨ks, off2, none⟩) n cap2], .ty 39⟩) := (h.ext (by decide)).trans hF.b208
        refine GO_walk [] rfl (by kernel_rfl) (by first | assumption | simp) ?_; intro q hq; simp [hC, hY, vx6, y208]; refine hq _ _ _ _ ?_; clear hq q
        exact hk _ _ ⟨ct, Mt, gt, hinv, (h.tmp s0N1 s0N2 hi (by simp [s0D]) (i := 1) (t := 106) (by decide) rfl (by decide))⟩
      · -- 2
        have hd0 := hdep _ rfl
        simp [Region.binds] at hd0
        have d1 : listed[1]? = some true := by simp [hd0]
        have vf1 : ts 106 = .agg #[.int .i64 st, .slice (some ⟨ks, off2, none⟩) n cap2] := h.tm (1, 106) (by decide) d1
        have low : ∀ k, k < 100 → hp k = G0 k := fun k hk => (h.ext (s0X200 _ (by omega))).trans (hF.low k hk)
        have cL : ∀ p ∈ L, hp p.1 = some p.2 := fun p hp => (h.ext (s0X200 _ (hT.ok.big p hp).2)).trans (hF.bL p hp)
        refine GO_callG (f := .func 16) (cap := #[]) hC dT rfl hi (by simp [wantedG]) (by simp [Tryd.ntmps4]) rfl rfl (by simp [okT]) (by simp [gev]) (by simp) (by simp [okX, junk, vf1]) (by simp [gev, vf1]) (by simp [cL _ hT.kb]) (fun q hq => (low q hq).symm ▸ (by simp (disch := omega) only [hpL_cons, hpL_nil, if_neg])) ?_ ?_
        · intro v ns hV k hk
          rw [ownS_key hV k hk]
          omega
        rintro v ns ⟨ct', Mt', gt', u1, u2, u3, rfl, rfl⟩
        have h := h.chg (V' := s0V L bm bs ks g bx tp nr md st w0 w1 w2 lo hh E off n cap off2 cap2 fm fs ct' Mt' gt') (Bk' := s0Bk L bm bs ks g bx tp nr md st w0 w1 w2 lo hh E off n cap off2 cap2 fm fs ct' Mt' gt') hi (fun j hj hD => by unfold s0V; split <;> first | rfl | exact absurd rfl hj | exact (hD (by decide)).elim) (fun j hj hD => by unfold s0Bk; split <;> first | rfl | exact absurd rfl hj | exact (hD (by decide)).elim)
        exact hk _ _ ⟨ct', Mt', gt', ⟨u1, u2, u3⟩, h.new s0N1 s0N2 s0X1 hi (by simp [s0D]) (i := 2) (t := 107) (k := 1016) (by decide) rfl (by decide) rfl (by decide)⟩
      · -- 3
        have hd0 := hdep _ rfl
        simp [Region.binds] at hd0
        have d0 : listed[0]? = some true := by simp [hd0]
        have d2 : listed[2]? = some true := by simp [hd0]
        have vf0 : ts 105 = .agg #[.slice (some ⟨100, off, none⟩) n cap, .int .i64 g, .int .i64 bx, .int .i64 tp, .int .i64 nr, .int .i64 md] := h.tm (0, 105) (by decide) d0
        have vf2 : ts 107 = .agg #[.int .i64 (-st), .slice (some ⟨1016, 0, none⟩) n ct] := h.tm (2, 107) (by decide) d2
        have y1016 : hp 1016 = some (⟨fa Mt .i64 gt, .ty 46⟩) := h.bxi hi (w := 2) (by decide) d2 (by decide)
        have low : ∀ k, k < 100 → hp k = G0 k := fun k hk => (h.ext (s0X200 _ (by omega))).trans (hF.low k hk)
        have cL : ∀ p ∈ L, hp p.1 = some p.2 := fun p hp => (h.ext (s0X200 _ (hT.ok.big p hp).2)).trans (hF.bL p hp)
        have hBt := own_sb (n := n) (M := Mt) (g := gt) hinv.2.1 hinv.2.2 hF6 hnn
        have hE3 := eEnergy_L _ 108 bm _ (LTwo.two (G := G0) hm.fx hBt.fx) off n cap 0 n ct fm (tnF fs n) hm hBt hcap hinv.1 g bx tp nr md (-st) hs'
        rw [enV_tn c r, hR] at hE3
        unfold cfV spV at hE3
        refine GO_walk [15] rfl (by kernel_rfl) (by first | assumption | simp) ?_; intro q hq; simp [hC, hY, vf0, vf2, y1016]; (repeat ((first | (refine heapK_mv hE3 G0F (B := 200) (LTwo.two (G := G0) hm.fx hBt.fx).ok (fun k => if k = 108 then 1016 else k) (fun k hk => if_neg (by omega)) (by simp [ren, renA, renF, ren0]) (by simp) (by simp [hrm, fa_rn, cL _ hT.ka, y1016]) (by simp [keys]) (by simp [keys]; rfl) ?_)); try simp [hC, hY, vf0, vf2, y1016])); refine hq _ _ _ _ ?_; clear hq q
        exact hk _ _ ⟨ct, Mt, gt, hinv, (h.tmp s0N1 s0N2 hi (by simp [s0D, d0, d2]) (i := 3) (t := 108) (by decide) rfl (by decide))⟩
      · -- 4
        have hd0 := hdep _ rfl
        simp [Region.binds] at hd0
        have d3 : listed[3]? = some true := by simp [hd0]
        have vf3 : ts 108 = .tuple #[.agg #[.int .u64 (wi lo 0), .int .u64 (wi lo 1), .int .u64 (wi lo 2), .int .u64 (wi lo 3), .int .u64 (wi hh 0), .int .u64 (wi hh 1), .int .u64 (wi hh 2), .int .u64 (wi hh 3)], .int .i64 E] := h.tm (3, 108) (by decide) d3
        refine GO_walk [] rfl (by kernel_rfl) (by first | assumption | simp) ?_; intro q hq; simp [hC, hY, vf3]; refine hq _ _ _ _ ?_; clear hq q
        exact hk _ _ ⟨ct, Mt, gt, hinv, (h.tmp s0N1 s0N2 hi (by simp [s0D, d3]) (i := 4) (t := 104) (by decide) rfl (by decide))⟩
      · -- 5
        have hd0 := hdep _ rfl
        simp [Region.binds] at hd0
        have d4 : listed[4]? = some true := by simp [hd0]
        have vf4 : ts 104 = .tuple #[.agg #[.int .u64 (wi lo 0), .int .u64 (wi lo 1), .int .u64 (wi lo 2), .int .u64 (wi lo 3), .int .u64 (wi hh 0), .int .u64 (wi hh 1), .int .u64 (wi hh 2), .int .u64 (wi hh 3)], .int .i64 E] := h.tm (4, 104) (by decide) d4
        refine GO_walk [] rfl (by kernel_rfl) (by first | assumption | simp) ?_; intro q hq; simp [hC, hY, vf4]; refine hq _ _ _ _ ?_; clear hq q
        exact hk _ _ ⟨ct, Mt, gt, hinv, (h.tmp s0N1 s0N2 hi (by simp [s0D, d4]) (i := 5) (t := 109) (by decide) rfl (by decide))⟩
      · -- 6
        have hd0 := hdep _ rfl
        simp [Region.binds] at hd0
        have d4 : listed[4]? = some true := by simp [hd0]
        have vf4 : ts 104 = .tuple #[.agg #[.int .u64 (wi lo 0), .int .u64 (wi lo 1), .int .u64 (wi lo 2), .int .u64 (wi lo 3), .int .u64 (wi hh 0), .int .u64 (wi hh 1), .int .u64 (wi hh 2), .int .u64 (wi hh 3)], .int .i64 E] := h.tm (4, 104) (by decide) d4
        refine GO_walk [] rfl (by kernel_rfl) (by first | assumption | simp) ?_; intro q hq; simp [hC, hY, vf4]; refine hq _ _ _ _ ?_; clear hq q
        exact hk _ _ ⟨ct, Mt, gt, hinv, (h.tmp s0N1 s0N2 hi (by simp [s0D, d4]) (i := 6) (t := 110) (by decide) rfl (by decide))⟩
      · -- 7
        refine GO_walk [] rfl (by kernel_rfl) (by first | assumption | simp) ?_; intro q hq; simp [hC, hY]; refine hq _ _ _ _ ?_; clear hq q
        exact hk _ _ ⟨ct, Mt, gt, hinv, (h.new s0N1 s0N2 s0X1 hi (by simp [s0D]) (i := 7) (t := 18) (k := 1056) (by decide) rfl (by decide) rfl (by decide))⟩
      · -- 8
        have hd0 := hdep _ rfl
        simp [Region.binds] at hd0
        have d5 : listed[5]? = some true := by simp [hd0]
        have d7 : listed[7]? = some true := by simp [hd0]
        have vf5 : ts 109 = .agg #[.int .u64 (wi lo 0), .int .u64 (wi lo 1), .int .u64 (wi lo 2), .int .u64 (wi lo 3), .int .u64 (wi hh 0), .int .u64 (wi hh 1), .int .u64 (wi hh 2), .int .u64 (wi hh 3)] := h.tm (5, 109) (by decide) d5
        have vf7 : ts 18 = .pointer (some ⟨1056, 0, none⟩) := h.tm (7, 18) (by decide) d7
        have y1056 : hp 1056 = some (⟨#[.int .u64 0, .int .u64 0, .int .u64 0, .int .u64 0, .int .u64 0, .int .u64 0, .int .u64 0, .int .u64 0], .ty 48⟩) := h.bxi hi (w := 7) (by decide) d7 (by decide)
        refine GO_walk [] rfl (by kernel_rfl) (by first | assumption | simp) ?_; intro q hq; simp [hC, hY, vf5, vf7, y1056]; refine hq _ _ _ _ ?_; clear hq q
        exact hk _ _ ⟨ct, Mt, gt, hinv, (h.st s0X1 hi (by simp [s0D, d5, d7]) (i := 8) (k := 1056) (by decide) (by decide) rfl (by decide))⟩
      · -- 9
        have hd0 := hdep _ rfl
        simp [Region.binds] at hd0
        have d6 : listed[6]? = some true := by simp [hd0]
        have vf6 : ts 110 = .int .i64 E := h.tm (6, 110) (by decide) d6
        refine GO_walk [] rfl (by kernel_rfl) (by first | assumption | simp) ?_; intro q hq; simp [hC, hY, vf6]; refine hq _ _ _ _ ?_; clear hq q
        exact hk _ _ ⟨ct, Mt, gt, hinv, (h.tmp s0N1 s0N2 hi (by simp [s0D, d6]) (i := 9) (t := 19) (by decide) rfl (by decide))⟩
    · have hno : ∀ j : Nat, (Array.replicate 10 false)[j]? ≠ some true := fun j => by
        rw [Array.getElem?_replicate]
        split <;> simp
      exact ⟨n, 6 * n, tnF fs n, ⟨Nat.le_refl _, Nat.le_refl _, fun _ _ => rfl⟩, TJ.start hno⟩
  · have hlt : i < 8 := by
      have := (Array.getElem?_eq_some_iff.1 hi).1
      rw [szR] at this
      simpa using this
    obtain ⟨ca, Ma, ga, cb, Mb, gb, hinv, h⟩ := h
    obtain rfl | rfl | rfl | rfl | rfl | rfl | rfl | rfl : i = 0 ∨ i = 1 ∨ i = 2 ∨ i = 3 ∨ i = 4 ∨ i = 5 ∨ i = 6 ∨ i = 7 := by omega
    · -- 0
      have vx6 : ts 6 = .pointer (some ⟨208, 0, none⟩) := (h.t0 6 (by decide)).trans hF.e6
      have y208 : hp 208 = some (⟨#[.int .i64 st, .slice (some ⟨ks, off2, none⟩) n cap2], .ty 39⟩) := (h.ext (by decide)).trans hF.b208
      refine GO_walk [] rfl (by kernel_rfl) (by first | assumption | simp) ?_; intro q hq; simp [hC, hY, vx6, y208]; refine hq _ _ _ _ ?_; clear hq q
      exact hk _ _ ⟨ca, Ma, ga, cb, Mb, gb, hinv, (h.tmp s5N1 s5N2 hi (by simp [s5D]) (i := 0) (t := 52) (by decide) rfl (by decide))⟩
    · -- 1
      have hd0 := hdep _ rfl
      simp [Region.binds] at hd0
      have d0 : listed[0]? = some true := by simp [hd0]
      have vf0 : ts 52 = .agg #[.int .i64 st, .slice (some ⟨ks, off2, none⟩) n cap2] := h.tm (0, 52) (by decide) d0
      have low : ∀ k, k < 100 → hp k = G0 k := fun k hk => (h.ext (s5X200 _ (by omega))).trans (hF.low k hk)
      have cL : ∀ p ∈ L, hp p.1 = some p.2 := fun p hp => (h.ext (s5X200 _ (hT.ok.big p hp).2)).trans (hF.bL p hp)
      refine GO_callG (f := .func 13) (cap := #[]) hC dO rfl hi (by simp [wantedG]) (by simp [Tryd.ntmps4]) rfl rfl (by simp [okT]) (by simp [gev]) (by simp) (by simp [okX, junk, vf0]) (by simp [gev, vf0]) (by simp [cL _ hT.kb]) (fun q hq => (low q hq).symm ▸ (by simp (disch := omega) only [hpL_cons, hpL_nil, if_neg])) ?_ ?_
      · intro v ns hV k hk
        rw [ownS_key hV k hk]
        omega
      rintro v ns ⟨ca', Ma', ga', u1, u2, u3, rfl, rfl⟩
      have h := h.chg (V' := s5V L bm bs ks g bx tp nr md st w0 w1 w2 off n cap off2 cap2 a b fm fs ca' Ma' ga' cb Mb gb) (Bk' := s5Bk L bm bs ks g bx tp nr md st w0 w1 w2 off n cap off2 cap2 a b fm fs ca' Ma' ga' cb Mb gb) hi (fun j hj hD => by unfold s5V; split <;> first | rfl | exact absurd rfl hj | exact (hD (by decide)).elim) (fun j hj hD => by unfold s5Bk; split <;> first | rfl | exact absurd rfl hj | exact (hD (by decide)).elim)
      obtain ⟨_, _, _, v1, v2, v3⟩ := hinv
      exact hk _ _ ⟨ca', Ma', ga', cb, Mb, gb, ⟨u1, u2, u3, v1, v2, v3⟩, h.new s5N1 s5N2 s5X1 hi (by simp [s5D]) (i := 1) (t := 53) (k := 472) (by decide) rfl (by decide) rfl (by decide)⟩
    · -- 2
      have vx5 : ts 5 = .pointer (some ⟨200, 0, none⟩) := (h.t0 5 (by decide)).trans hF.e5
      have y200 : hp 200 = some (⟨#[.slice (some ⟨100, off, none⟩) n cap, .int .i64 g, .int .i64 bx, .int .i64 tp, .int .i64 nr, .int .i64 md], .ty 36⟩) := (h.ext (by decide)).trans hF.b200
      refine GO_walk [] rfl (by kernel_rfl) (by first | assumption | simp) ?_; intro q hq; simp [hC, hY, vx5, y200]; refine hq _ _ _ _ ?_; clear hq q
      exact hk _ _ ⟨ca, Ma, ga, cb, Mb, gb, hinv, (h.tmp s5N1 s5N2 hi (by simp [s5D]) (i := 2) (t := 54) (by decide) rfl (by decide))⟩
    · -- 3
      have hd0 := hdep _ rfl
      simp [Region.binds] at hd0
      have d2 : listed[2]? = some true := by simp [hd0]
      have vf2 : ts 54 = .agg #[.slice (some ⟨100, off, none⟩) n cap, .int .i64 g, .int .i64 bx, .int .i64 tp, .int .i64 nr, .int .i64 md] := h.tm (2, 54) (by decide) d2
      have low : ∀ k, k < 100 → hp k = G0 k := fun k hk => (h.ext (s5X200 _ (by omega))).trans (hF.low k hk)
      have cL : ∀ p ∈ L, hp p.1 = some p.2 := fun p hp => (h.ext (s5X200 _ (hT.ok.big p hp).2)).trans (hF.bL p hp)
      refine GO_callG (f := .func 14) (cap := #[]) hC dQ rfl hi (by simp [wantedG]) (by simp [Tryd.ntmps4]) rfl rfl (by simp [okT]) (by simp [gev]) (by simp) (by simp [okX, junk, vf2]) (by simp [gev, vf2]) (by simp [cL _ hT.ka]) (fun q hq => (low q hq).symm ▸ (by simp (disch := omega) only [hpL_cons, hpL_nil, if_neg])) ?_ ?_
      · intro v ns hV k hk
        rw [ownC_key hV k hk]
        omega
      rintro v ns ⟨cb', Mb', gb', u1, u2, u3, rfl, rfl⟩
      have h := h.chg (V' := s5V L bm bs ks g bx tp nr md st w0 w1 w2 off n cap off2 cap2 a b fm fs ca Ma ga cb' Mb' gb') (Bk' := s5Bk L bm bs ks g bx tp nr md st w0 w1 w2 off n cap off2 cap2 a b fm fs ca Ma ga cb' Mb' gb') hi (fun j hj hD => by unfold s5V; split <;> first | rfl | exact absurd rfl hj | exact (hD (by decide)).elim) (fun j hj hD => by unfold s5Bk; split <;> first | rfl | exact absurd rfl hj | exact (hD (by decide)).elim)
      obtain ⟨v1, v2, v3, _, _, _⟩ := hinv
      exact hk _ _ ⟨ca, Ma, ga, cb', Mb', gb', ⟨v1, v2, v3, u1, u2, u3⟩, h.new s5N1 s5N2 s5X1 hi (by simp [s5D]) (i := 3) (t := 55) (k := 488) (by decide) rfl (by decide) rfl (by decide)⟩
    · -- 4
      refine GO_walk [] rfl (by kernel_rfl) (by first | assumption | simp) ?_; intro q hq; simp [hC, hY]; refine hq _ _ _ _ ?_; clear hq q
      exact hk _ _ ⟨ca, Ma, ga, cb, Mb, gb, hinv, (h.new s5N1 s5N2 s5X1 hi (by simp [s5D]) (i := 4) (t := 12) (k := 496) (by decide) rfl (by decide) rfl (by decide))⟩
    · -- 5
      refine GO_walk [] rfl (by kernel_rfl) (by first | assumption | simp) ?_; intro q hq; simp [hC, hY]; refine hq _ _ _ _ ?_; clear hq q
      exact hk _ _ ⟨ca, Ma, ga, cb, Mb, gb, hinv, (h.new s5N1 s5N2 s5X1 hi (by simp [s5D]) (i := 5) (t := 13) (k := 504) (by decide) rfl (by decide) rfl (by decide))⟩
    · -- 6
      have hd0 := hdep _ rfl
      simp [Region.binds] at hd0
      have d1 : listed[1]? = some true := by simp [hd0]
      have d4 : listed[4]? = some true := by simp [hd0]
      have vf1 : ts 53 = .agg #[.int .i64 st, .slice (some ⟨472, 0, none⟩) n ca] := h.tm (1, 53) (by decide) d1
      have vf4 : ts 12 = .pointer (some ⟨496, 0, none⟩) := h.tm (4, 12) (by decide) d4
      have y496 : hp 496 = some (⟨#[.int .i64 0, .slice none 0 0], .ty 39⟩) := h.bxi hi (w := 4) (by decide) d4 (by decide)
      refine GO_walk [] rfl (by kernel_rfl) (by first | assumption | simp) ?_; intro q hq; simp [hC, hY, vf1, vf4, y496]; refine hq _ _ _ _ ?_; clear hq q
      exact hk _ _ ⟨ca, Ma, ga, cb, Mb, gb, hinv, (h.st s5X1 hi (by simp [s5D, d1, d4]) (i := 6) (k := 496) (by decide) (by decide) rfl (by decide))⟩
    · -- 7
      have hd0 := hdep _ rfl
      simp [Region.binds] at hd0
      have d3 : listed[3]? = some true := by simp [hd0]
      have d5 : listed[5]? = some true := by simp [hd0]
      have vf3 : ts 55 = .agg #[.slice (some ⟨488, 0, none⟩) n cb, .int .i64 g, .int .i64 bx, .int .i64 tp, .int .i64 nr, .int .i64 md] := h.tm (3, 55) (by decide) d3
      have vf5 : ts 13 = .pointer (some ⟨504, 0, none⟩) := h.tm (5, 13) (by decide) d5
      have y504 : hp 504 = some (⟨#[.slice none 0 0, .int .i64 0, .int .i64 0, .int .i64 0, .int .i64 0, .int .i64 0], .ty 36⟩) := h.bxi hi (w := 5) (by decide) d5 (by decide)
      refine GO_walk [] rfl (by kernel_rfl) (by first | assumption | simp) ?_; intro q hq; simp [hC, hY, vf3, vf5, y504]; refine hq _ _ _ _ ?_; clear hq q
      exact hk _ _ ⟨ca, Ma, ga, cb, Mb, gb, hinv, (h.st s5X1 hi (by simp [s5D, d3, d5]) (i := 7) (k := 504) (by decide) (by decide) rfl (by decide))⟩
  · have hno : ∀ j : Nat, (Array.replicate 8 false)[j]? ≠ some true := fun j => by
      rw [Array.getElem?_replicate]
      split <;> simp
    exact ⟨n, 6 * n, fs, n, n, fm, ⟨Nat.le_refl _, Nat.le_refl _, fun _ _ => rfl, Nat.le_refl _, Nat.le_refl _, fun _ _ => rfl⟩, TJ.start hno⟩
theorem great_00 (g bx tp nr md st : Int) : Ret Tryd.prog G0 11 #[.agg #[.slice none 0 0, .int .i64 g, .int .i64 bx, .int .i64 tp, .int .i64 nr, .int .i64 md], .agg #[.int .i64 st, .slice none 0 0]] (.bool false) := by
  refine ret_of G0F Tryd.func11 rfl Tryd.call11 (by simp) (by simp) (by simp [Tryd.ntmps11]) ?_
  intro C hC hC0 hY
  repeat' (first | apply gwS | simp only [wN, wM, Nat.reduceAdd, Nat.reduceMul] | ((first | refine gwR [] ?_ | refine gwD [] ?_); intro Q hQ hP; simp [hC, hY]; (first | refine hQ _ _ _ _ (by kernel_rfl) ?_ | refine hP _ _ (by kernel_rfl) fun _ => ?_); clear hQ hP Q) | apply gwB | apply gwT | apply gwK | apply gwE | apply gwG | apply gwL | simp only [blockG_exit] | (refine gwC ?_ ?_ <;> (intro hb; first | (cases hb; done) | skip)))
  refine ⟨.inr trivial, ?_⟩
  simp [Tryd.results11]
theorem great00K (g bx tp nr md st : Int) (K : Value → Prop) : callK Tryd.prog G0 11 #[.agg #[.slice none 0 0, .int .i64 g, .int .i64 bx, .int .i64 tp, .int .i64 nr, .int .i64 md], .agg #[.int .i64 st, .slice none 0 0]] K ↔ K (.bool false) := callK_iff G0W (by kernel_rfl) (great_00 g bx tp nr md st)
theorem fits_00 (g bx tp nr md st : Int) : Ret Tryd.prog G0 12 #[.agg #[.slice none 0 0, .int .i64 g, .int .i64 bx, .int .i64 tp, .int .i64 nr, .int .i64 md], .agg #[.int .i64 st, .slice none 0 0]] (.bool false) := by
  refine ret_of G0F Tryd.func12 rfl Tryd.call12 (by simp) (by simp) (by simp [Tryd.ntmps12]) ?_
  intro C hC hC0 hY
  repeat' (first | apply gwS | simp only [wN, wM, Nat.reduceAdd, Nat.reduceMul] | ((first | refine gwR [] ?_ | refine gwD [] ?_); intro Q hQ hP; simp [hC, hY]; (first | refine hQ _ _ _ _ (by kernel_rfl) ?_ | refine hP _ _ (by kernel_rfl) fun _ => ?_); clear hQ hP Q) | apply gwB | apply gwT | apply gwK | apply gwE | apply gwG | apply gwL | simp only [blockG_exit] | (refine gwC ?_ ?_ <;> (intro hb; first | (cases hb; done) | skip)))
  refine ⟨.inr trivial, ?_⟩
  simp [Tryd.results12]
theorem fits00K (g bx tp nr md st : Int) (K : Value → Prop) : callK Tryd.prog G0 12 #[.agg #[.slice none 0 0, .int .i64 g, .int .i64 bx, .int .i64 tp, .int .i64 nr, .int .i64 md], .agg #[.int .i64 st, .slice none 0 0]] K ↔ K (.bool false) := callK_iff G0W (by kernel_rfl) (fits_00 g bx tp nr md st)
theorem great_0s (b : Blk) (off n cap : Nat) (f : Nat → Int) (h : SB b off n f) (g bx tp nr md st : Int) : Fun Tryd.prog G0 11 #[.agg #[.slice none 0 0, .int .i64 g, .int .i64 bx, .int .i64 tp, .int .i64 nr, .int .i64 md], .agg #[.int .i64 st, .slice (some ⟨100, off, none⟩) n cap]] (hpL G0 [(100, b)]) (keys [(100, b)]) (.ret (.bool (decide (9 < n))) []) := by
  refine fun_ofL (B := 200) G0F Tryd.func11 rfl Tryd.call11 (oneL_ok h.fx) ?_ (by simp) (by simp) (by simp) (by simp [Tryd.ntmps11]) (by omega) ?_
  · simp [idsV, idsA, idsF, ids0, keys]
  intro C hC hC0 hY
  have hr := fun ρ => Blk.fx_rn h.fx ρ
  by_cases h1 : 9 < n
  · have h1' : (9 : Int) < (n : Int) := by omega
    rw [decide_eq_true h1]
    repeat' (first | apply gwS | simp only [wN, wM, Nat.reduceAdd, Nat.reduceMul] | ((first | refine gwR [] ?_ | refine gwD [] ?_); intro Q hQ hP; simp [hC, hY, h1']; (first | refine hQ _ _ _ _ (by kernel_rfl) ?_ | refine hP _ _ (by kernel_rfl) fun _ => ?_); clear hQ hP Q) | apply gwB | apply gwT | apply gwK | apply gwE | apply gwG | apply gwL | simp only [blockG_exit] | (refine gwC ?_ ?_ <;> (intro hb; first | (cases hb; done) | skip)))
    refine ⟨.inr rfl, by simp [Tryd.results11], keep_of G0F (by simp) (by (intro k hk; first | rfl | (simp (disch := omega) only [addB, List.mem_cons, List.not_mem_nil, or_false, upd_other, hpL_cons, hpL_nil, if_neg, updL] <;> done)))⟩
  · have h1' : ¬ (9 : Int) < (n : Int) := by omega
    rw [decide_eq_false h1]
    repeat' (first | apply gwS | simp only [wN, wM, Nat.reduceAdd, Nat.reduceMul] | ((first | refine gwR [] ?_ | refine gwD [] ?_); intro Q hQ hP; simp [hC, hY, h1']; (first | refine hQ _ _ _ _ (by kernel_rfl) ?_ | refine hP _ _ (by kernel_rfl) fun _ => ?_); clear hQ hP Q) | apply gwB | apply gwT | apply gwK | apply gwE | apply gwG | apply gwL | simp only [blockG_exit] | (refine gwC ?_ ?_ <;> (intro hb; first | (cases hb; done) | skip)))
    refine ⟨.inr rfl, by simp [Tryd.results11], keep_of G0F (by simp) (by (intro k hk; first | rfl | (simp (disch := omega) only [addB, List.mem_cons, List.not_mem_nil, or_false, upd_other, hpL_cons, hpL_nil, if_neg, updL] <;> done)))⟩
theorem great_s0 (b : Blk) (off n cap : Nat) (f : Nat → Int) (h : MB b off n f) (g bx tp nr md st : Int) : Fun Tryd.prog G0 11 #[.agg #[.slice (some ⟨100, off, none⟩) n cap, .int .i64 g, .int .i64 bx, .int .i64 tp, .int .i64 nr, .int .i64 md], .agg #[.int .i64 st, .slice none 0 0]] (hpL G0 [(100, b)]) (keys [(100, b)]) (.ret (.bool (decide (9 < n))) []) := by
  refine fun_ofL (B := 200) G0F Tryd.func11 rfl Tryd.call11 (oneL_ok h.fx) ?_ (by simp) (by simp) (by simp) (by simp [Tryd.ntmps11]) (by omega) ?_
  · simp [idsV, idsA, idsF, ids0, keys]
  intro C hC hC0 hY
  have hr := fun ρ => Blk.fx_rn h.fx ρ
  by_cases h1 : 9 < n
  · have h1' : (9 : Int) < (n : Int) := by omega
    rw [decide_eq_true h1]
    repeat' (first | apply gwS | simp only [wN, wM, Nat.reduceAdd, Nat.reduceMul] | ((first | refine gwR [] ?_ | refine gwD [] ?_); intro Q hQ hP; simp [hC, hY, h1']; (first | refine hQ _ _ _ _ (by kernel_rfl) ?_ | refine hP _ _ (by kernel_rfl) fun _ => ?_); clear hQ hP Q) | apply gwB | apply gwT | apply gwK | apply gwE | apply gwG | apply gwL | simp only [blockG_exit] | (refine gwC ?_ ?_ <;> (intro hb; first | (cases hb; done) | skip)))
    refine ⟨.inr rfl, by simp [Tryd.results11], keep_of G0F (by simp) (by (intro k hk; first | rfl | (simp (disch := omega) only [addB, List.mem_cons, List.not_mem_nil, or_false, upd_other, hpL_cons, hpL_nil, if_neg, updL] <;> done)))⟩
  · have h1' : ¬ (9 : Int) < (n : Int) := by omega
    rw [decide_eq_false h1]
    repeat' (first | apply gwS | simp only [wN, wM, Nat.reduceAdd, Nat.reduceMul] | ((first | refine gwR [] ?_ | refine gwD [] ?_); intro Q hQ hP; simp [hC, hY, h1']; (first | refine hQ _ _ _ _ (by kernel_rfl) ?_ | refine hP _ _ (by kernel_rfl) fun _ => ?_); clear hQ hP Q) | apply gwB | apply gwT | apply gwK | apply gwE | apply gwG | apply gwL | simp only [blockG_exit] | (refine gwC ?_ ?_ <;> (intro hb; first | (cases hb; done) | skip)))
    refine ⟨.inr rfl, by simp [Tryd.results11], keep_of G0F (by simp) (by (intro k hk; first | rfl | (simp (disch := omega) only [addB, List.mem_cons, List.not_mem_nil, or_false, upd_other, hpL_cons, hpL_nil, if_neg, updL] <;> done)))⟩
theorem fits_0s (b : Blk) (off n cap : Nat) (f : Nat → Int) (h : SB b off n f) (g bx tp nr md st : Int) : Fun Tryd.prog G0 12 #[.agg #[.slice none 0 0, .int .i64 g, .int .i64 bx, .int .i64 tp, .int .i64 nr, .int .i64 md], .agg #[.int .i64 st, .slice (some ⟨100, off, none⟩) n cap]] (hpL G0 [(100, b)]) (keys [(100, b)]) (.ret (.bool false) []) := by
  refine fun_ofL (B := 200) G0F Tryd.func12 rfl Tryd.call12 (oneL_ok h.fx) ?_ (by simp) (by simp) (by simp) (by simp [Tryd.ntmps12]) (by omega) ?_
  · simp [idsV, idsA, idsF, ids0, keys]
  intro C hC hC0 hY
  have hr := fun ρ => Blk.fx_rn h.fx ρ
  repeat' (first | apply gwS | simp only [wN, wM, Nat.reduceAdd, Nat.reduceMul] | ((first | refine gwR [] ?_ | refine gwD [] ?_); intro Q hQ hP; simp [hC, hY]; (first | refine hQ _ _ _ _ (by kernel_rfl) ?_ | refine hP _ _ (by kernel_rfl) fun _ => ?_); clear hQ hP Q) | apply gwB | apply gwT | apply gwK | apply gwE | apply gwG | apply gwL | simp only [blockG_exit] | (refine gwC ?_ ?_ <;> (intro hb; first | (cases hb; done) | skip)))
  refine ⟨.inr rfl, by simp [Tryd.results12], keep_of G0F (by simp) (by (intro k hk; first | rfl | (simp (disch := omega) only [addB, List.mem_cons, List.not_mem_nil, or_false, upd_other, hpL_cons, hpL_nil, if_neg, updL] <;> done)))⟩
theorem fits_s0 (b : Blk) (off n cap : Nat) (f : Nat → Int) (h : MB b off n f) (g bx tp nr md st : Int) : Fun Tryd.prog G0 12 #[.agg #[.slice (some ⟨100, off, none⟩) n cap, .int .i64 g, .int .i64 bx, .int .i64 tp, .int .i64 nr, .int .i64 md], .agg #[.int .i64 st, .slice none 0 0]] (hpL G0 [(100, b)]) (keys [(100, b)]) (.ret (.bool false) []) := by
  refine fun_ofL (B := 200) G0F Tryd.func12 rfl Tryd.call12 (oneL_ok h.fx) ?_ (by simp) (by simp) (by simp) (by simp [Tryd.ntmps12]) (by omega) ?_
  · simp [idsV, idsA, idsF, ids0, keys]
  intro C hC hC0 hY
  have hr := fun ρ => Blk.fx_rn h.fx ρ
  have hck := chk11_fun b off n cap f h g bx tp nr md
  unfold cfV at hck
  cases ok : cfOk n f g bx tp nr md with
  | false =>
    rw [ok] at hck
    simp only [Bool.false_eq_true, if_false] at hck
    repeat' (first | apply gwS | simp only [wN, wM, Nat.reduceAdd, Nat.reduceMul] | ((first | refine gwR [33] ?_ | refine gwD [33] ?_); intro Q hQ hP; simp [hC, hY]; (repeat ((first | (refine heapK_mv hck G0F (B := 200) (oneL_ok h.fx) (fun k => k) (fun k hk => rfl) (by simp [ren, renA, renF, ren0, cfV]) (by simp) (by simp [hr]) (by simp [keys]) (by simp [keys]; rfl) ?_)); try simp [hC, hY])); (first | refine hQ _ _ _ _ (by kernel_rfl) ?_ | refine hP _ _ (by kernel_rfl) fun _ => ?_); clear hQ hP Q) | apply gwB | apply gwT | apply gwK | apply gwE | apply gwG | apply gwL | simp only [blockG_exit] | (refine gwC ?_ ?_ <;> (intro hb; first | (cases hb; done) | skip)))
    refine ⟨.inr rfl, by simp [Tryd.results12], keep_of G0F (by simp) (by (intro k hk; first | rfl | (simp (disch := omega) only [addB, List.mem_cons, List.not_mem_nil, or_false, upd_other, hpL_cons, hpL_nil, if_neg, updL] <;> done)))⟩
  | true =>
    rw [ok] at hck
    simp only [if_true] at hck
    repeat' (first | apply gwS | simp only [wN, wM, Nat.reduceAdd, Nat.reduceMul] | ((first | refine gwR [33] ?_ | refine gwD [33] ?_); intro Q hQ hP; simp [hC, hY]; (repeat ((first | (refine heapK_mv hck G0F (B := 200) (oneL_ok h.fx) (fun k => k) (fun k hk => rfl) (by simp [ren, renA, renF, ren0, cfV]) (by simp) (by simp [hr]) (by simp [keys]) (by simp [keys]; rfl) ?_)); try simp [hC, hY])); (first | refine hQ _ _ _ _ (by kernel_rfl) ?_ | refine hP _ _ (by kernel_rfl) fun _ => ?_); clear hQ hP Q) | apply gwB | apply gwT | apply gwK | apply gwE | apply gwG | apply gwL | simp only [blockG_exit] | (refine gwC ?_ ?_ <;> (intro hb; first | (cases hb; done) | skip)))
    refine ⟨.inr rfl, by simp [Tryd.results12], keep_of G0F (by simp) (by (intro k hk; first | rfl | (simp (disch := omega) only [addB, List.mem_cons, List.not_mem_nil, or_false, upd_other, hpL_cons, hpL_nil, if_neg, updL] <;> done)))⟩
set_option maxRecDepth 8000 in
set_option maxHeartbeats 4000000 in
theorem EnergySame_00 (g bx tp nr md st i k w0 w1 w2 : Int) (hg : i64 g) (hbx : i64 bx) (htp : i64 tp) (hnr : i64 nr) (hmd : i64 md) (hs : i64 st) (hi : i64 i) (hk : i64 k) (hw0 : i64 w0) (hw1 : i64 w1) (hw2 : i64 w2) : Ret Tryd.prog G0 4 #[cfV (.slice none 0 0) g bx tp nr md, .agg #[.int .i64 st, .slice none 0 0], .int .i64 i, .int .i64 k, .agg #[.int .i64 w0, .int .i64 w1, .int .i64 w2]] (.bool true) := by
  unfold cfV
  refine ret_of G0F Tryd.func4 rfl Tryd.call4 (by simp) (by simp) (by simp [Tryd.ntmps4]) ?_
  intro C hC hC0 hY
  have wk := wakes22_of wakes22_ret
  repeat' (first | apply gwS | simp only [wN, wM, Nat.reduceAdd, Nat.reduceMul] | ((first | refine gwR [] ?_ | refine gwD [] ?_); intro Q hQ hP; simp [hC, hY, wk, great00K, fits00K]; (first | refine hQ _ _ _ _ (by kernel_rfl) ?_ | refine hP _ _ (by kernel_rfl) fun _ => ?_); clear hQ hP Q) | apply gwB | apply gwT | apply gwK | apply gwE | apply gwG | apply gwL | simp only [blockG_exit] | (refine gwC ?_ ?_ <;> (intro hb; first | (cases hb; done) | skip)))
  refine ⟨.inr trivial, ?_⟩
  simp [Tryd.results4]
set_option maxRecDepth 8000 in
set_option maxHeartbeats 4000000 in
theorem EnergySame_0s (b : Blk) (off n cap : Nat) (f : Nat → Int) (h : SB b off n f) (hcap : n ≤ cap) (g bx tp nr md st i k w0 w1 w2 : Int) (hg : i64 g) (hbx : i64 bx) (htp : i64 tp) (hnr : i64 nr) (hmd : i64 md) (hs : i64 st) (hi : i64 i) (hk : i64 k) (hw0 : i64 w0) (hw1 : i64 w1) (hw2 : i64 w2) :
    Fun Tryd.prog G0 4 #[cfV (.slice none 0 0) g bx tp nr md, .agg #[.int .i64 st, .slice (some ⟨100, off, none⟩) n cap], .int .i64 i, .int .i64 k, .agg #[.int .i64 w0, .int .i64 w1, .int .i64 w2]] (hpL G0 [(100, b)]) (keys [(100, b)]) (.ret (.bool true) []) := by
  refine fun_ofL (B := 200) G0F Tryd.func4 rfl Tryd.call4 (oneL_ok h.fx) ?_ (by simp) (by simp) (by simp) (by simp [Tryd.ntmps4]) (by omega) ?_
  · simp [idsV, idsA, idsF, ids0, keys, cfV]
  intro C hC hC0 hY
  have wk := wakes22_of wakes22_ret
  have hr := fun ρ => Blk.fx_rn h.fx ρ
  have hgr := great_0s b off n cap f h g bx tp nr md st
  have hft := fits_0s b off n cap f h g bx tp nr md st
  unfold cfV
  cases hq : decide (9 < n) with
  | true =>
    rw [hq] at hgr
    repeat' (first | apply gwS | simp only [wN, wM, Nat.reduceAdd, Nat.reduceMul] | ((first | refine gwR [11, 12] ?_ | refine gwD [11, 12] ?_); intro Q hQ hP; simp [hC, hY, wk]; (repeat ((first | (refine heapK_mv hgr G0F (B := 200) (oneL_ok h.fx) (fun k => k) (fun k hk => rfl) (by simp [ren, renA, renF, ren0, cfV]) (by simp) (by simp [hr]) (by simp [keys]) (by simp [keys]; rfl) ?_) | (refine heapK_mv hft G0F (B := 200) (oneL_ok h.fx) (fun k => k) (fun k hk => rfl) (by simp [ren, renA, renF, ren0, cfV]) (by simp) (by simp [hr]) (by simp [keys]) (by simp [keys]; rfl) ?_)); try simp [hC, hY, wk])); (first | refine hQ _ _ _ _ (by kernel_rfl) ?_ | refine hP _ _ (by kernel_rfl) fun _ => ?_); clear hQ hP Q) | apply gwB | apply gwT | apply gwK | apply gwE | apply gwG | apply gwL | simp only [blockG_exit] | (refine gwC ?_ ?_ <;> (intro hb; first | (cases hb; done) | skip)))
    refine ⟨.inr rfl, by simp [Tryd.results4], keep_of G0F (by simp) (by (intro k hk; first | rfl | (simp (disch := omega) only [addB, List.mem_cons, List.not_mem_nil, or_false, upd_other, hpL_cons, hpL_nil, if_neg, updL] <;> done)))⟩
  | false =>
    rw [hq] at hgr
    repeat' (first | apply gwS | simp only [wN, wM, Nat.reduceAdd, Nat.reduceMul] | ((first | refine gwR [11, 12] ?_ | refine gwD [11, 12] ?_); intro Q hQ hP; simp [hC, hY, wk]; (repeat ((first | (refine heapK_mv hgr G0F (B := 200) (oneL_ok h.fx) (fun k => k) (fun k hk => rfl) (by simp [ren, renA, renF, ren0, cfV]) (by simp) (by simp [hr]) (by simp [keys]) (by simp [keys]; rfl) ?_) | (refine heapK_mv hft G0F (B := 200) (oneL_ok h.fx) (fun k => k) (fun k hk => rfl) (by simp [ren, renA, renF, ren0, cfV]) (by simp) (by simp [hr]) (by simp [keys]) (by simp [keys]; rfl) ?_)); try simp [hC, hY, wk])); (first | refine hQ _ _ _ _ (by kernel_rfl) ?_ | refine hP _ _ (by kernel_rfl) fun _ => ?_); clear hQ hP Q) | apply gwB | apply gwT | apply gwK | apply gwE | apply gwG | apply gwL | simp only [blockG_exit] | (refine gwC ?_ ?_ <;> (intro hb; first | (cases hb; done) | skip)))
    refine ⟨.inr rfl, by simp [Tryd.results4], keep_of G0F (by simp) (by (intro k hk; first | rfl | (simp (disch := omega) only [addB, List.mem_cons, List.not_mem_nil, or_false, upd_other, hpL_cons, hpL_nil, if_neg, updL] <;> done)))⟩
set_option maxRecDepth 8000 in
set_option maxHeartbeats 4000000 in
theorem EnergySame_s0 (b : Blk) (off n cap : Nat) (f : Nat → Int) (h : MB b off n f) (hcap : n ≤ cap) (g bx tp nr md st i k w0 w1 w2 : Int) (hg : i64 g) (hbx : i64 bx) (htp : i64 tp) (hnr : i64 nr) (hmd : i64 md) (hs : i64 st) (hi : i64 i) (hk : i64 k) (hw0 : i64 w0) (hw1 : i64 w1) (hw2 : i64 w2) :
    Fun Tryd.prog G0 4 #[cfV (.slice (some ⟨100, off, none⟩) n cap) g bx tp nr md, .agg #[.int .i64 st, .slice none 0 0], .int .i64 i, .int .i64 k, .agg #[.int .i64 w0, .int .i64 w1, .int .i64 w2]] (hpL G0 [(100, b)]) (keys [(100, b)]) (.ret (.bool true) []) := by
  refine fun_ofL (B := 200) G0F Tryd.func4 rfl Tryd.call4 (oneL_ok h.fx) ?_ (by simp) (by simp) (by simp) (by simp [Tryd.ntmps4]) (by omega) ?_
  · simp [idsV, idsA, idsF, ids0, keys, cfV]
  intro C hC hC0 hY
  have wk := wakes22_of wakes22_ret
  have hr := fun ρ => Blk.fx_rn h.fx ρ
  have hgr := great_s0 b off n cap f h g bx tp nr md st
  have hft := fits_s0 b off n cap f h g bx tp nr md st
  unfold cfV
  cases hq : decide (9 < n) with
  | true =>
    rw [hq] at hgr
    repeat' (first | apply gwS | simp only [wN, wM, Nat.reduceAdd, Nat.reduceMul] | ((first | refine gwR [11, 12] ?_ | refine gwD [11, 12] ?_); intro Q hQ hP; simp [hC, hY, wk]; (repeat ((first | (refine heapK_mv hgr G0F (B := 200) (oneL_ok h.fx) (fun k => k) (fun k hk => rfl) (by simp [ren, renA, renF, ren0, cfV]) (by simp) (by simp [hr]) (by simp [keys]) (by simp [keys]; rfl) ?_) | (refine heapK_mv hft G0F (B := 200) (oneL_ok h.fx) (fun k => k) (fun k hk => rfl) (by simp [ren, renA, renF, ren0, cfV]) (by simp) (by simp [hr]) (by simp [keys]) (by simp [keys]; rfl) ?_)); try simp [hC, hY, wk])); (first | refine hQ _ _ _ _ (by kernel_rfl) ?_ | refine hP _ _ (by kernel_rfl) fun _ => ?_); clear hQ hP Q) | apply gwB | apply gwT | apply gwK | apply gwE | apply gwG | apply gwL | simp only [blockG_exit] | (refine gwC ?_ ?_ <;> (intro hb; first | (cases hb; done) | skip)))
    refine ⟨.inr rfl, by simp [Tryd.results4], keep_of G0F (by simp) (by (intro k hk; first | rfl | (simp (disch := omega) only [addB, List.mem_cons, List.not_mem_nil, or_false, upd_other, hpL_cons, hpL_nil, if_neg, updL] <;> done)))⟩
  | false =>
    rw [hq] at hgr
    repeat' (first | apply gwS | simp only [wN, wM, Nat.reduceAdd, Nat.reduceMul] | ((first | refine gwR [11, 12] ?_ | refine gwD [11, 12] ?_); intro Q hQ hP; simp [hC, hY, wk]; (repeat ((first | (refine heapK_mv hgr G0F (B := 200) (oneL_ok h.fx) (fun k => k) (fun k hk => rfl) (by simp [ren, renA, renF, ren0, cfV]) (by simp) (by simp [hr]) (by simp [keys]) (by simp [keys]; rfl) ?_) | (refine heapK_mv hft G0F (B := 200) (oneL_ok h.fx) (fun k => k) (fun k hk => rfl) (by simp [ren, renA, renF, ren0, cfV]) (by simp) (by simp [hr]) (by simp [keys]) (by simp [keys]; rfl) ?_)); try simp [hC, hY, wk])); (first | refine hQ _ _ _ _ (by kernel_rfl) ?_ | refine hP _ _ (by kernel_rfl) fun _ => ?_); clear hQ hP Q) | apply gwB | apply gwT | apply gwK | apply gwE | apply gwG | apply gwL | simp only [blockG_exit] | (refine gwC ?_ ?_ <;> (intro hb; first | (cases hb; done) | skip)))
    refine ⟨.inr rfl, by simp [Tryd.results4], keep_of G0F (by simp) (by (intro k hk; first | rfl | (simp (disch := omega) only [addB, List.mem_cons, List.not_mem_nil, or_false, upd_other, hpL_cons, hpL_nil, if_neg, updL] <;> done)))⟩
theorem EnergySame_fun (L : List (Nat × Blk)) (ks : Nat) (bm bs : Blk) (hT : LTwo G0 L ks bm bs) (off n cap : Nat) (fm : Nat → Int) (hm : MB bm off n fm) (hcap : n ≤ cap) (off2 n2 cap2 : Nat) (fs : Nat → Int) (hSb : SB bs off2 n2 fs) (hcap2 : n2 ≤ cap2) (g bx tp nr md st i k w0 w1 w2 : Int) (hg : i64 g) (hbx : i64 bx) (htp : i64 tp) (hnr : i64 nr) (hmd : i64 md) (hs : i64 st) (hi : i64 i) (hk : i64 k) (hw0 : i64 w0) (hw1 : i64 w1) (hw2 : i64 w2) :
    Fun Tryd.prog G0 4 #[cfV (.slice (some ⟨100, off, none⟩) n cap) g bx tp nr md, .agg #[.int .i64 st, .slice (some ⟨ks, off2, none⟩) n2 cap2], .int .i64 i, .int .i64 k, .agg #[.int .i64 w0, .int .i64 w1, .int .i64 w2]] (hpL G0 L) (keys L) (.ret (.bool true) []) := by
  cases hf : fitB n n2 (cfOk n fm g bx tp nr md) (rightB st fs n2) with
  | false => exact EnergySame_bad L ks bm bs hT off n cap fm hm hcap off2 n2 cap2 fs hSb hcap2 g bx tp nr md st i k w0 w1 w2 hg hbx htp hnr hmd hs hi hk hw0 hw1 hw2 hf
  | true => exact EnergySame_fit L ks bm bs hT off n cap fm hm hcap off2 n2 cap2 fs hSb hcap2 g bx tp nr md st i k w0 w1 w2 hg hbx htp hnr hmd hs hi hk hw0 hw1 hw2 hf
end Go.Gy
namespace Go.Gy
set_option linter.unusedSimpArgs false
set_option linter.unusedVariables false
set_option maxRecDepth 100000
open Go Go.RowKit Go.Proofs Go.ChangeShapes Go.WideShapes Go.ChangeAt

section
variable {H : Type} {enc : TypeId × Value → H} {P : Program}
theorem post_of_below {f : Func} {s : ChangeSpec} {apart fresh handsOn again : Bool} {W W' : World} {args : Array Value} {v : Value} {ds gs : List (DataW H)} {before pa pv : List MemPlace}
    (hW : DataW.Whole enc P f.params.toList s.vars apart W args.toList ds gs before)
    (hres : ∀ (b : Nat) (sp : Nat → Bool) (hd : Bool), DataW.TrodAll enc P W' b sp hd f.resultTypes.toList (v.resultList f.resultTypes.size) (s.fn H (ds ++ gs)).results [])
    (hargs : ∀ sp : Nat → Bool, (∀ p ∈ before, sp p.block = true) → DataW.TrodAll enc P W' 0 sp true f.params.toList args.toList (s.fn H (ds ++ gs)).args pa)
    (hvars : ∀ sp : Nat → Bool, (∀ p ∈ before, sp p.block = true) → DataW.TrodVars enc P W' sp s.vars (s.fn H (ds ++ gs)).vars pv)
    (hps : before = pa ++ pv) (hb : Below W.heap.size W W')
    (hok : ∀ (j : Nat) (t : TypeId) (r : Value), f.resultTypes[j]? = some t → (v.resultList f.resultTypes.size)[j]? = some r → Value.okWide P W' .any 0 t r) :
    s.post enc P f apart fresh handsOn again W args v W' := by
  have hlt : ∀ p ∈ before, p.block < W.heap.size := fun p hp => hW.lt p hp
  have hold : ∀ p ∈ before, (fun b => decide (b < W.heap.size)) p.block = true := fun p hp => by simpa using hlt p hp
  refine ⟨ds, gs, before, [], pa, pv, hW, hres _ _ _, hargs _ hold, hvars _ hold, World.keptBut_mono (fun p hp => ⟨hp, ?_⟩) (hb.frame (· ∈ before)), fun _ => ?_⟩
  · rw [hps, List.mem_append] at hp
    exact Or.inr hp
  · obtain ⟨_, _, _, _, _, hz, hn⟩ := hW
    refine ⟨hok, _, _, ([] ++ pa) ++ pv, ⟨[] ++ pa, pv, trodAll_append (hargs _ (fun _ _ => rfl)) (hres _ _ _), hvars _ (fun _ _ => rfl), rfl, ?_, ?_⟩, ?_⟩
    · intro b off hp
      have hin : MemPlace.cell b off ∈ before := by rw [hps]; simpa using hp
      rw [hb.frozen (hlt _ hin)]
      exact hz b off hin
    · intro ha
      have := hn ha
      rw [hps] at this
      simpa using this
    · intro p hp _
      rw [hps]
      simpa using hp
theorem open_ia {w : World} {base b0 : Nat} {spare : Nat → Bool} {held : Bool} {r : Reach} {t e : TypeId} {n : Nat} {q : IntKind} {v : Value} {d : DataW H} {p : List MemPlace} (ht : P.underlying t = some (.array n e)) (he : P.underlying e = some (.int q)) (hce : P.cellsOf e = 1) (hct : P.cellsOf t = n)
    (hv : Value.okWide P w r b0 t v) (h : DataW.Trod enc P w base spare held t v d p) :
    ∃ zs : List Int, zs.length = n ∧ v = .agg (zs.map (.int q)).toArray ∧ d = .agg (zs.map fun z => .lit (.int q z)) ∧ p = [] ∧ ∀ z ∈ zs, (Lit.int q z).wf = true := by
  simp only [Value.okWide, ht] at hv
  obtain ⟨cs, rfl, hsz, _⟩ := hv
  obtain ⟨fuel, hf⟩ := h
  cases fuel with
  | zero => simp [DataW.trod] at hf
  | succ fuel =>
    simp only [DataW.trod, ht, hce, hct, Nat.mul_one, Value.cells] at hf
    split at hf
    · rename_i hl
      obtain ⟨xs, hm, hx⟩ := Option.map_eq_some_iff.1 hf
      have key : ∀ (l : List Nat) (xs : List (DataW H × List MemPlace)), l.mapM (fun i => DataW.trod enc P w base spare held fuel e ((cs.toList.drop i).take 1)) = some xs →
          ∃ zs : List Int, zs.length = l.length ∧ (∀ j i, l[j]? = some i → ((cs.toList.drop i).take 1) = [Value.int q (zs.getD j 0)]) ∧ xs = zs.map (fun z => (.lit (.int q z), [])) ∧ ∀ z ∈ zs, (Lit.int q z).wf = true := by
        intro l
        induction l with
        | nil => intro xs h; simp at h; subst h; exact ⟨[], rfl, by simp, rfl, by simp⟩
        | cons i l ih =>
          intro xs h
          rw [List.mapM_cons] at h
          simp only [bind, Option.bind_eq_some_iff, pure, Option.some.injEq] at h
          obtain ⟨y, hy, ys, hys, rfl⟩ := h
          obtain ⟨zs, h1, h2, rfl, h4⟩ := ih ys hys
          obtain ⟨z, hz, rfl, hw⟩ := DataW.trod_int he hy
          refine ⟨z :: zs, by simp [h1], fun j i' hj => ?_, rfl, fun x hx => ?_⟩
          · cases j with
            | zero => simp at hj; subst hj; simpa using hz
            | succ j => simp at hj; simpa using h2 j i' hj
          · rcases List.mem_cons.1 hx with rfl | hx
            · exact hw
            · exact h4 x hx
      obtain ⟨zs, h1, h2, rfl, h4⟩ := key _ _ hm
      have hzn : zs.length = n := by simpa using h1
      simp only [Prod.mk.injEq] at hx
      refine ⟨zs, hzn, ?_, by rw [← hx.1]; simp [Function.comp_def], by rw [← hx.2]; simp [List.flatMap_eq_nil_iff], h4⟩
      congr 1
      apply Array.ext'
      simp only
      apply List.ext_getElem?
      intro i
      by_cases hi : i < n
      · have h3 := h2 i i (by simp [hi])
        have h5 : cs.toList[i]? = some (.int q (zs.getD i 0)) := by
          have := congrArg (·[0]?) h3
          simpa [List.getElem?_take, List.getElem?_drop] using this
        have e1 : zs[i]? = some (zs.getD i 0) := by simp [List.getD, List.getElem?_eq_getElem (show i < zs.length by omega)]
        rw [h5, List.getElem?_map, e1]
        rfl
      · rw [List.getElem?_eq_none (by omega), List.getElem?_eq_none (by simp; omega)]
    · cases hf
end

theorem cells_u64 : Tryd.prog.cellsOf 26 = 1 := by kernel_rfl
theorem cells_wide : Tryd.prog.cellsOf 28 = 4 := by kernel_rfl
theorem mm_i64 : IntKind.i64.min = -9223372036854775808 ∧ IntKind.i64.max = 9223372036854775807 := by decide
theorem wf_i64 {z : Int} (h : (Lit.int .i64 z).wf = true) : i64 z := by
  simp only [Lit.wf, Bool.and_eq_true, decide_eq_true_eq, mm_i64.1, mm_i64.2] at h; unfold i64; omega
section
variable {H : Type} {enc : TypeId × Value → H} {w : World}
end

theorem own : ownKnob Tryd.prog.godebug = none := by kernel_rfl
theorem heap_of_var {P : Program} {W : World} {name : String} {g : Nat} {cs : Array Value} {z : Array Value} {T : TypeId} (hg : P.globalNamed name = some g) (hlt : g < P.globals.size) (hrow : ((begin P (fun _ _ => 0) default).world.heap[g]?).bind Obj.row? = some (z, T))
    (hS : W.ShapedOpen P) (hv : W.var? P name = some cs) : W.heap[g]? = some (.cells cs T (0, 0)) := by
  obtain ⟨c, h1, _⟩ := hS.1 g z T hlt hrow
  unfold World.var? at hv
  rw [hg] at hv
  simp only [Option.bind_some, h1, Option.some.injEq] at hv
  rw [h1, hv]
theorem gLeast : Tryd.prog.globalNamed "gyre/quot.least" = some 1 := by kernel_rfl
theorem gLeastType : (Tryd.prog.globals[1]?).map (·.type) = some 28 := by kernel_rfl
theorem gLeastRow : ((begin Tryd.prog (fun _ _ => 0) default).world.heap[1]?).bind Obj.row? = some (#[.int .u64 0, .int .u64 0, .int .u64 0, .int .u64 0], 28) := by kernel_rfl
theorem least_of {W : World} {rest : List (String × DataW Unit)} (h : laidMet Tryd.prog (("gyre/quot.least", Proofs.YtfedlkjhfnlnbaaDoor.Rows.laid_gyre_quot_least) :: rest) W) : W.var? Tryd.prog "gyre/quot.least" = some lsB.c :=
  Lib.tabIs_of_head (zs := [0, 0, 0, 9223372036854775808]) gLeast gLeastType Tryd.underlying28 Tryd.underlying26 cells_u64 cells_wide h
theorem cells_of_strs {H : Type} {enc : TypeId × Value → H} {P : Program} {w : World} {base : Nat} {sp : Nat → Bool} {held : Bool} {fuel : Nat} {t e : TypeId} {n : Nat} {cs : List Value} {ss : List (List UInt8)} {p : List MemPlace}
    (ht : P.underlying t = some (.array n e)) (he : P.underlying e = some .string) (hce : P.cellsOf e = 1) (hct : P.cellsOf t = n)
    (h : DataW.trod enc P w base sp held fuel t cs = some (.agg (ss.map fun s => .lit (.string s)), p)) : cs = ss.map fun s => Value.string ⟨s.toArray⟩ := by
  cases fuel with
  | zero => simp [DataW.trod] at h
  | succ fuel =>
    simp only [DataW.trod, ht, hce, hct, Nat.mul_one] at h
    split at h
    · rename_i hl
      obtain ⟨xs, hm, hx⟩ := Option.map_eq_some_iff.1 h
      have hxs : xs.map (·.1) = ss.map fun s => (DataW.lit (.string s) : DataW H) := by
        have := congrArg Prod.fst hx
        simpa using this
      have hxl : xs.length = n := by simpa using Lib.mapM_length hm
      have hzl : ss.length = n := by
        have := congrArg List.length hxs
        simp at this
        omega
      apply List.ext_getElem?
      intro i
      by_cases hi : i < n
      · obtain ⟨b, hb, hf⟩ := Lib.mapM_at hm i i (by simp [hi])
        obtain ⟨s, hc, rfl, _⟩ := DataW.trod_string he hf
        have h1 : cs[i]? = some (.string s) := by
          have := congrArg (·[0]?) hc
          simpa [List.getElem?_take, List.getElem?_drop] using this
        have h2 : (xs.map (·.1))[i]? = some (DataW.lit (.string s.data.toList) : DataW H) := by simp [hb]
        rw [hxs] at h2
        simp only [List.getElem?_map, Option.map_eq_some_iff, DataW.lit.injEq, Lit.string.injEq] at h2
        obtain ⟨z', hz', rfl⟩ := h2
        simp [h1, hz']
      · rw [List.getElem?_eq_none (by omega), List.getElem?_eq_none (by simp; omega)]
    · cases h
theorem gNames : Tryd.prog.globalNamed "gyre/conf.names" = some 0 := by kernel_rfl
theorem gNamesType : (Tryd.prog.globals[0]?).map (·.type) = some 123 := by kernel_rfl
theorem cells_str : Tryd.prog.cellsOf 9 = 1 := by kernel_rfl
theorem cells_names : Tryd.prog.cellsOf 123 = 7 := by kernel_rfl
theorem gNamesRow : ((begin Tryd.prog (fun _ _ => 0) default).world.heap[0]?).bind Obj.row? = some (#[.string ⟨#[]⟩, .string ⟨#[]⟩, .string ⟨#[]⟩, .string ⟨#[]⟩, .string ⟨#[]⟩, .string ⟨#[]⟩, .string ⟨#[]⟩], 123) := by kernel_rfl
theorem names_of {W : World} {rest : List (String × DataW Unit)} (h : laidMet Tryd.prog (("gyre/conf.names", Proofs.YtfedlkjhfnlnbaaDoor.Rows.laid_gyre_conf_names) :: rest) W) : W.var? Tryd.prog "gyre/conf.names" = some cnB.c := by
  obtain ⟨ps, ⟨g', t', cs, fuel, p, q, hg', ht', hvar, hd, _, _⟩, _⟩ := h
  obtain rfl := Option.some.inj (gNames.symm.trans hg')
  obtain rfl := Option.some.inj (gNamesType.symm.trans ht')
  have h9 := cells_of_strs (ss := [[98, 111, 100, 105, 101, 115], [109, 97, 115, 115], [99, 111, 110, 115, 116, 97, 110, 116], [98, 111, 120], [116, 111, 112], [110, 101, 97, 114], [109, 101, 116, 104, 111, 100]]) Tryd.underlying123 Tryd.underlying9 cells_str cells_names hd
  rw [hvar]
  congr 1
  exact Array.ext' h9
theorem gok_both {W : World} (hS : W.ShapedOpen Tryd.prog) (h : laidMet Tryd.prog [("gyre/conf.names", Proofs.YtfedlkjhfnlnbaaDoor.Rows.laid_gyre_conf_names), ("gyre/quot.least", Proofs.YtfedlkjhfnlnbaaDoor.Rows.laid_gyre_quot_least)] W) : GOK G0 W := fun k b hk => by
  have h9 := G0_mem hk
  simp [G0L] at h9
  rcases h9 with ⟨rfl, rfl⟩ | ⟨rfl, rfl⟩
  · exact heap_of_var gLeast (of_decide_eq_true (by kernel_rfl)) gLeastRow hS (least_of (laidMet.tail h))
  · exact heap_of_var gNames (of_decide_eq_true (by kernel_rfl)) gNamesRow hS (names_of h)
theorem celln_int : Tryd.prog.cellsOf 3 = 1 := by kernel_rfl
theorem cells_vec : Tryd.prog.cellsOf 41 = 3 := by kernel_rfl
theorem cells_body : Tryd.prog.cellsOf 46 = 6 := by kernel_rfl
theorem cells_bodies : Tryd.prog.cellsOf 37 = 1 := by kernel_rfl
theorem cells_state : Tryd.prog.cellsOf 39 = 2 := by kernel_rfl
theorem ctypes_state : Tryd.prog.cellTypes Tryd.prog.depth 39 = some [3, 37] := by kernel_rfl
section
variable {H : Type} {enc : TypeId × Value → H} {w : World} {base : Nat} {spare : Nat → Bool} {held : Bool}
theorem vec_cells {fuel : Nat} {cs : List Value} {x : DataW H × List MemPlace} (h : DataW.trod enc Tryd.prog w base spare held fuel 41 cs = some x) : cs.length = 3 ∧ ∀ j, j < 3 → ∃ z, cs[j]? = some (.int .i64 z) ∧ i64 z := by
  obtain ⟨xs, m, _, rfl, hl, hxs, hi⟩ := DataW.trod_array Tryd.underlying41 h
  rw [cells_vec] at hl
  refine ⟨hl, fun j hj => ?_⟩
  have h1 := hi j hj
  rw [celln_int, Nat.mul_one, List.getElem?_eq_getElem (by omega)] at h1
  obtain ⟨z, e, _, hw⟩ := DataW.trod_int Tryd.underlying3 h1
  refine ⟨z, ?_, wf_i64 hw⟩
  have := congrArg (·[0]?) e
  simpa [List.getElem?_take, List.getElem?_drop] using this
theorem body_cells {fuel : Nat} {cs : List Value} {x : DataW H × List MemPlace} (h : DataW.trod enc Tryd.prog w base spare held fuel 46 cs = some x) : cs.length = 6 ∧ ∀ j, j < 6 → ∃ z, cs[j]? = some (.int .i64 z) ∧ i64 z := by
  obtain ⟨y0, y1, n, rfl, hl, h0, h1⟩ := trod_struct2 Tryd.underlying46 h
  rw [cells_body] at hl
  simp only [cells_vec] at h0 h1
  refine ⟨hl, fun j hj => ?_⟩
  by_cases c : j < 3
  · obtain ⟨z, e, hz⟩ := (vec_cells h0).2 j c
    refine ⟨z, ?_, hz⟩
    simpa [List.getElem?_take, List.getElem?_drop, c] using e
  · obtain ⟨z, e, hz⟩ := (vec_cells h1).2 (j - 3) (by omega)
    refine ⟨z, ?_, hz⟩
    rw [List.getElem?_take, if_pos (by omega), List.getElem?_drop, show 3 + (j - 3) = j by omega] at e
    exact e
theorem open_bodies {fuel : Nat} {cs : List Value} {x : DataW H × List MemPlace} (h : DataW.trod enc Tryd.prog w 0 (fun _ => true) held fuel 37 cs = some x) :
    cs = [.slice none 0 0] ∨ ∃ (a : Addr) (len cap : Nat) (f : Nat → Int), cs = [.slice (some a) len cap] ∧ len ≤ cap ∧ ∀ j, j < 6 * cap → w.cell? (a.add j) = some (.int .i64 (f j)) ∧ i64 (f j) := by
  rcases Deep.open_slice Tryd.underlying37 h with ⟨h0, _⟩ | ⟨a, len, cap, m, n, D, Pl, rfl, _, hlc, hcm, hm, _, hel⟩
  · exact .inl h0
  right
  rw [if_pos rfl] at hm
  subst hm
  refine ⟨a, len, m, fun j => match w.cell? (a.add j) with | some (.int _ z) => z | _ => 0, rfl, hlc, fun j hj => ?_⟩
  obtain ⟨cs', h1, h2⟩ := hel (j / 6) (by omega)
  rw [cells_body] at h1
  obtain ⟨z, e, hz⟩ := (body_cells h2).2 (j % 6) (by omega)
  unfold World.cells? at h1
  rw [if_pos (Nat.zero_le _)] at h1
  have h3 := mapM_some_get h1 (j % 6) (j % 6) (List.getElem?_range (by omega))
  rw [e, Deep.add_add, show j / 6 * 6 + j % 6 = j by omega] at h3
  dsimp only
  rw [h3]
  exact ⟨rfl, hz⟩
theorem rowAt_uint {fits : TypeId → Bool} (h : fits 26 = false) (d c o n : Nat) : rowAt Tryd.prog fits d 26 c o n = false := by
  cases d with
  | zero => rfl
  | succ d => simp [rowAt, h, Tryd.underlying26]
theorem rowAt_wide {fits : TypeId → Bool} (h : fits 26 = false) (h2 : fits 28 = false) (d c o n : Nat) : rowAt Tryd.prog fits d 28 c o n = false := by
  cases d with
  | zero => rfl
  | succ d => simp [rowAt, h2, Tryd.underlying28, rowAt_uint h]
theorem lies_wide (d c o n : Nat) : liesAt Tryd.prog d 28 c o 46 n = false := by
  cases d with
  | zero => rfl
  | succ d =>
    unfold liesAt
    rw [rowAt_wide (by kernel_rfl) (by kernel_rfl), Tryd.underlying46]
    rfl
theorem rowAt_str {fits : TypeId → Bool} (h : fits 9 = false) (d c o n : Nat) : rowAt Tryd.prog fits d 9 c o n = false := by
  cases d with
  | zero => rfl
  | succ d => simp [rowAt, h, Tryd.underlying9]
theorem rowAt_names {fits : TypeId → Bool} (h : fits 9 = false) (h2 : fits 123 = false) (d c o n : Nat) : rowAt Tryd.prog fits d 123 c o n = false := by
  cases d with
  | zero => rfl
  | succ d => simp [rowAt, h2, Tryd.underlying123, rowAt_str h]
theorem lies_names (d c o n : Nat) : liesAt Tryd.prog d 123 c o 46 n = false := by
  cases d with
  | zero => rfl
  | succ d =>
    unfold liesAt
    rw [rowAt_names (by kernel_rfl) (by kernel_rfl), Tryd.underlying46]
    rfl
theorem G0_lies : ∀ p ∈ G0L, ∃ t, p.2.T = .ty t ∧ ∀ d c o n, liesAt Tryd.prog d t c o 46 n = false := by
  intro p hp
  unfold G0L at hp
  rcases List.mem_cons.1 hp with rfl | hp
  · exact ⟨_, rfl, lies_wide⟩
  rcases List.mem_cons.1 hp with rfl | hp
  · exact ⟨_, rfl, lies_names⟩
  cases hp
structure StAt (W : World) (k off n cap : Nat) (b : Blk) (f : Nat → Int) : Prop where
  le : n ≤ cap
  heap : W.heap[k]? = some b.obj0
  fx : b.fx
  raw : ∃ c T fr, b = ⟨c, .raw T fr⟩
  rd : rdI b off (6 * cap) f
  i6 : ∀ j, j < 6 * cap → i64 (f j)
  lies : ∃ row c, W.shape? k = some (row, c) ∧ liesAt Tryd.prog Tryd.prog.depth row (c / Tryd.prog.cellsOf row) off 46 cap = true
theorem StAt.sb {W : World} {k off n cap : Nat} {b : Blk} {f : Nat → Int} (h : StAt W k off n cap b f) (hn : n ≤ 2932031007402) : SB b off n f := ⟨h.rd.le (by have := h.le; omega), h.fx, fun j hj => h.i6 j (by have := h.le; omega), hn⟩
theorem open_state {r : Reach} {b0 : Nat} {v : Value} {d : DataW H} {p : List MemPlace} (hv : Value.okWide Tryd.prog w r b0 39 v) (h : DataW.Trod enc Tryd.prog w 0 (fun _ => true) held 39 v d p) :
    ∃ st, i64 st ∧ (v = .agg #[.int .i64 st, .slice none 0 0] ∨ ∃ (k off n cap : Nat) (b : Blk) (f : Nat → Int), v = .agg #[.int .i64 st, .slice (some ⟨k, off, none⟩) n cap] ∧ StAt w k off n cap b f) := by
  simp only [Value.okWide, Tryd.underlying39] at hv
  obtain ⟨cs, rfl, hsz, ts, hts, _, hall⟩ := hv
  rw [ctypes_state] at hts
  simp only [Option.some.injEq] at hts
  subst hts
  obtain ⟨fuel, hf⟩ := h
  obtain ⟨y0, y1, n, _, hl, h0, h1⟩ := trod_struct2 Tryd.underlying39 hf
  rw [celln_int] at h0
  rw [cells_bodies] at h1
  simp only [Value.cells] at h0 h1
  obtain ⟨st, e0, _, hw⟩ := DataW.trod_int Tryd.underlying3 h0
  rw [cells_state] at hsz
  obtain ⟨c0, c1, rfl⟩ : ∃ c0 c1, cs = #[c0, c1] := by
    obtain ⟨l⟩ := cs
    match l, hsz with
    | [c0, c1], _ => exact ⟨c0, c1, rfl⟩
  simp at e0
  subst e0
  refine ⟨st, wf_i64 hw, ?_⟩
  rcases open_bodies h1 with e1 | ⟨a, len, cap, f, e1, hle, hc⟩
  · simp at e1
    subst e1
    exact .inl rfl
  · simp at e1
    subst e1
    right
    obtain ⟨u, hu, hok⟩ := hall 1 _ rfl
    simp at hu
    subst hu
    simp only [Cell.okWide, Cell.ok, Tryd.underlying37] at hok
    obtain ⟨_, _, _, hsp, row, cells, hsh, hlies⟩ := hok
    obtain ⟨k, off, sp⟩ := a
    simp only at hsp hsh hlies
    subst hsp
    have hsh' := hsh
    unfold World.shape? at hsh'
    split at hsh'
    · rename_i c T fr hh
      simp only [Option.some.injEq, Prod.mk.injEq] at hsh'
      obtain ⟨rfl, rfl⟩ := hsh'
      refine ⟨k, off, len, cap, ⟨c, .raw T fr⟩, f, rfl, hle, hh, trivial, ⟨c, T, fr, rfl⟩, fun j hj => ?_, fun j hj => (hc j hj).2, T, _, hsh, hlies⟩
      have h2 := (hc j hj).1
      rw [Addr.add_lit] at h2
      simpa [World.cell?, hh] using h2
    · cases hsh'
end
theorem open_vec {H : Type} {enc : TypeId × Value → H} {w : World} {base b0 : Nat} {spare : Nat → Bool} {held : Bool} {r : Reach} {v : Value} {d : DataW H} {p : List MemPlace} (hv : Value.okWide Tryd.prog w r b0 41 v) (h : DataW.Trod enc Tryd.prog w base spare held 41 v d p) :
    ∃ x y z, (Lit.int .i64 x).wf = true ∧ (Lit.int .i64 y).wf = true ∧ (Lit.int .i64 z).wf = true ∧ v = .agg #[.int .i64 x, .int .i64 y, .int .i64 z] ∧ d = .agg [.lit (.int .i64 x), .lit (.int .i64 y), .lit (.int .i64 z)] ∧ p = [] := by
  obtain ⟨zs, hl, rfl, rfl, rfl, hw⟩ := open_ia Tryd.underlying41 Tryd.underlying3 celln_int cells_vec hv h
  match zs, hl with
  | [x, y, z], _ => exact ⟨x, y, z, hw _ (by simp), hw _ (by simp), hw _ (by simp), by simp, by simp, rfl⟩
theorem trodAll_stays {H : Type} {enc : TypeId × Value → H} {P : Program} {base : Nat} (hl : laidOutB P = true) {W W' : World} {sp' : Nat → Bool} : ∀ (ts : List TypeId) (vs : List Value) (ds : List (DataW H)) (ps : List MemPlace), (∀ t ∈ ts, P.readableRec t = true ∧ t < P.types.size) →
    DataW.TrodAll enc P W base (fun _ => true) true ts vs ds ps → (∀ p ∈ ps, W.sameAt W' p) → (∀ p ∈ ps, sp' p.block = true) → DataW.TrodAll enc P W' base sp' true ts vs ds ps
  | [], [], [], _, _, h, _, _ => h
  | t :: _, _ :: _, _ :: _, _, hT, ⟨p, q, h1, h2, e⟩, hm, hs => ⟨p, q, WideElems.Trod_stays hl (hT t (by simp)).1 (hT t (by simp)).2 h1 (fun x hx => hm x (by rw [e]; exact List.mem_append_left _ hx)) (fun x hx => hs x (by rw [e]; exact List.mem_append_left _ hx)),
      trodAll_stays hl _ _ _ _ (fun t ht => hT t (List.mem_cons_of_mem _ ht)) h2 (fun x hx => hm x (by rw [e]; exact List.mem_append_right _ hx)) (fun x hx => hs x (by rw [e]; exact List.mem_append_right _ hx)), e⟩
theorem laid_out : laidOutB Tryd.prog = true := by kernel_rfl
theorem bytes_body : Tryd.prog.bytesOf 46 = 48 := by kernel_rfl
theorem cap_le {H : Type} {enc : TypeId × Value → H} {w : World} {held : Bool} {st : Int} {a : Addr} {n cap : Nat} {d : DataW H} {p : List MemPlace} (h : DataW.Trod enc Tryd.prog w 0 (fun _ => true) held 39 (.agg #[.int .i64 st, .slice (some a) n cap]) d p) (hw : ∀ x ∈ d.weights Tryd.prog 39, x ≤ reachBytes) : cap ≤ 2932031007402 := by
  obtain ⟨fuel, hf⟩ := h
  obtain ⟨y0, y1, m, hx, hl, h0, h1⟩ := trod_struct2 Tryd.underlying39 hf
  rw [cells_bodies] at h1
  simp only [Value.cells] at h1
  rcases Deep.open_slice Tryd.underlying37 h1 with ⟨e1, _⟩ | ⟨a', len, cap', m', n', D, Pl, e1, _, hlc, hcm, hm, hy1, _⟩
  · simp at e1
  · simp at e1
    obtain ⟨rfl, rfl, rfl⟩ := e1
    rw [if_pos rfl] at hm
    subst hm
    simp only [Prod.mk.injEq] at hx
    have hd := hx.1
    rw [hd, hy1] at hw
    have := hw ((n + (m' - n)) * 48) (by
      simp only [DataW.weights, Tryd.underlying39]
      simp [DataW.weightsEach, DataW.weights, Tryd.underlying37, bytes_body])
    unfold reachBytes at this
    omega
theorem StAt.ne {W : World} {k off n cap : Nat} {b : Blk} {f : Nat → Int} (h : StAt W k off n cap b f) (hg : GOK G0 W) : ∀ g c, G0 g = some c → k ≠ g := fun g c hc e => by
  have h1 := hg g c hc
  obtain ⟨t, ht, hl'⟩ := G0_lies _ (G0_mem hc)
  obtain ⟨row, q, hsh, hl⟩ := h.lies
  rw [e] at hsh
  unfold World.shape? at hsh
  rw [h1] at hsh
  obtain ⟨cc, T⟩ := c
  simp only at ht
  subst ht
  simp only [Blk.obj0, Option.some.injEq, Prod.mk.injEq] at hsh
  obtain ⟨rfl, rfl⟩ := hsh
  rw [hl'] at hl
  cases hl
theorem fun_state {P : Program} {G : Hp} {fn : FuncId} {args : Array Value} {b : Blk} {v : Value} {W : World} {k : Nat} (hGF : GFlat G) (hF : Fun P G fn args (hpL G [(100, b)]) (keys [(100, b)]) (.ret v [])) (hv : flatV v = true) (hgok : GOK G W) (hfx : b.fx) (hk : W.heap[k]? = some b.obj0) (hne : ∀ g c, G g = some c → k ≠ g) :
    CallsS P fn (args.map (ren fun q => if q = 100 then k else q)) W fun e W' => e = .returned v ∧ Below W.heap.size W W' := by
  have er : rst (hpL G [(100, b)]) (keys [(100, b)]) = hpL G [(100, b)] := LOk.rst hGF
  have hobj : ∀ r, b.obj r = b.obj0 := fun r => by
    obtain ⟨c, T⟩ := b
    cases T with
    | ty t => exact Blk.obj_flat hfx
    | raw t fr => rfl
    | mp => exact hfx.elim
  have hmem : ∀ q c, hpL G [(100, b)] q = some c → (q = 100 ∧ c = b) ∨ (q < 100 ∧ G q = some c) := fun q c hq => by
    rcases hpL_mem hq with h | h
    · simp at h; exact .inl h
    · exact .inr ⟨(hGF q c h).1, h⟩
  have hrun := hF.run (fun q => if q = 100 then k else q) W hgok ?_ ?_ ?_
  · refine hrun.mono fun e W' h => ?_
    obtain ⟨he, ht⟩ := h
    rw [flatV_ren hv] at he
    exact ⟨he, ht.os, ht.tape, ht.output, ht.size, fun q hq => ht.same q hq (by simp)⟩
  · rw [er]
    intro q c hq
    rcases hmem q c hq with ⟨rfl, rfl⟩ | ⟨hlt, hG⟩
    · exact ⟨by simp only [if_true]; rw [hobj]; exact hk, Blk.fx_ids hfx _⟩
    · refine ⟨?_, Blk.flat_ids (hGF q c hG).2⟩
      have e1 : (fun q => if q = 100 then k else q) q = q := if_neg (by omega)
      rw [e1, hgok q c hG]
      congr 1
      obtain ⟨cc, T⟩ := c
      cases T with
      | ty t => exact (Blk.obj_flat (hGF q _ hG).2).symm
      | raw t fr => rfl
      | mp => exact (Blk.obj_flat (hGF q _ hG).2).symm
  · rw [er]
    intro q q' hq hq' e
    have e : (if q = 100 then k else q) = if q' = 100 then k else q' := e
    unfold dom at hq hq'
    cases h1 : hpL G [(100, b)] q with
    | none => exact absurd h1 hq
    | some c =>
      cases h2 : hpL G [(100, b)] q' with
      | none => exact absurd h2 hq'
      | some c' =>
        rcases hmem q c h1 with ⟨rfl, _⟩ | ⟨hlt, hG⟩ <;> rcases hmem q' c' h2 with ⟨rfl, _⟩ | ⟨hlt', hG'⟩
        · rfl
        · rw [if_pos rfl, if_neg (by omega)] at e; exact absurd e (hne _ _ hG')
        · rw [if_neg (by omega), if_pos rfl] at e; exact absurd e.symm (hne _ _ hG)
        · rw [if_neg (by omega), if_neg (by omega)] at e; exact e
  · intro q hq _
    exact if_neg (by omega)
section
variable {H : Type} {enc : TypeId × Value → H} {w : World} {base : Nat} {spare : Nat → Bool} {held : Bool}
end
theorem raw_same {W : World} {k : Nat} {b b' : Blk} (h : W.heap[k]? = some b.obj0) (h' : W.heap[k]? = some b'.obj0) (r : ∃ c T fr, b = ⟨c, .raw T fr⟩) (r' : ∃ c T fr, b' = ⟨c, .raw T fr⟩) : b = b' := by
  obtain ⟨c, T, fr, rfl⟩ := r
  obtain ⟨c', T', fr', rfl⟩ := r'
  rw [h] at h'
  simp only [Blk.obj0, Option.some.injEq, Obj.cells.injEq] at h'
  obtain ⟨rfl, rfl, rfl⟩ := h'
  rfl
theorem fun_L {P : Program} {G : Hp} {fn : FuncId} {args : Array Value} {L : List (Nat × Blk)} {v : Value} {W : World} (r : Nat → Nat) (hGF : GFlat G) (hF : Fun P G fn args (hpL G L) (keys L) (.ret v [])) (hv : flatV v = true) (hgok : GOK G W) (hL : LOk L 200) (hfx : ∀ p ∈ L, p.2.fx)
    (hr : ∀ p ∈ L, W.heap[r p.1]? = some p.2.obj0) (hne : ∀ p ∈ L, ∀ g c, G g = some c → r p.1 ≠ g) (hinj : ∀ p ∈ L, ∀ q ∈ L, r p.1 = r q.1 → p.1 = q.1) (hlow : ∀ q, q < 100 → r q = q) :
    CallsS P fn (args.map (ren r)) W fun e W' => e = .returned v ∧ Below W.heap.size W W' := by
  have er : rst (hpL G L) (keys L) = hpL G L := LOk.rst hGF
  have hobj : ∀ (b : Blk), b.fx → ∀ r, b.obj r = b.obj0 := fun b hb r => by
    obtain ⟨c, T⟩ := b
    cases T with
    | ty t => exact Blk.obj_flat hb
    | raw t fr => rfl
    | mp => exact hb.elim
  have hmem : ∀ q c, hpL G L q = some c → (q, c) ∈ L ∨ (q < 100 ∧ G q = some c) := fun q c hq => by
    rcases hpL_mem hq with h | h
    · exact .inl h
    · exact .inr ⟨(hGF q c h).1, h⟩
  have hrun := hF.run r W hgok ?_ ?_ ?_
  · refine hrun.mono fun e W' h => ?_
    obtain ⟨he, ht⟩ := h
    rw [flatV_ren hv] at he
    exact ⟨he, ht.os, ht.tape, ht.output, ht.size, fun q hq => ht.same q hq (by simp)⟩
  · rw [er]
    intro q c hq
    rcases hmem q c hq with h | ⟨hlt, hG⟩
    · exact ⟨by rw [hobj c (hfx _ h)]; exact hr _ h, Blk.fx_ids (hfx _ h) _⟩
    · refine ⟨?_, Blk.flat_ids (hGF q c hG).2⟩
      rw [hlow q hlt, hgok q c hG]
      congr 1
      obtain ⟨cc, T⟩ := c
      cases T with
      | ty t => exact (Blk.obj_flat (hGF q _ hG).2).symm
      | raw t fr => rfl
      | mp => exact (Blk.obj_flat (hGF q _ hG).2).symm
  · rw [er]
    intro q q' hq hq' e
    unfold dom at hq hq'
    cases h1 : hpL G L q with
    | none => exact absurd h1 hq
    | some c =>
      cases h2 : hpL G L q' with
      | none => exact absurd h2 hq'
      | some c' =>
        rcases hmem q c h1 with h | ⟨hlt, hG⟩ <;> rcases hmem q' c' h2 with h' | ⟨hlt', hG'⟩
        · exact hinj _ h _ h' e
        · rw [hlow q' hlt'] at e; exact absurd e (hne _ h _ _ hG')
        · rw [hlow q hlt] at e; exact absurd e.symm (hne _ h' _ _ hG)
        · rw [hlow q hlt, hlow q' hlt'] at e; exact e
  · intro q hq _
    exact hlow q hq
def nmL (k k2 q : Nat) : Nat := if q = 100 then k else if q = 108 then k2 else q
theorem nmL_low (k k2 q : Nat) (h : q < 100) : nmL k k2 q = q := by
  unfold nmL
  rw [if_neg (by omega), if_neg (by omega)]
@[simp] theorem nmL_a (k k2 : Nat) : nmL k k2 100 = k := by simp [nmL]
@[simp] theorem nmL_b (k k2 : Nat) : nmL k k2 108 = k2 := by simp [nmL]
theorem fun_two {P : Program} {G : Hp} {fn : FuncId} {args : Nat → Array Value} {b b2 : Blk} {v : Value} {W : World} {k k2 : Nat} (hGF : GFlat G) (hF : ∀ L ks, LTwo G L ks b b2 → Fun P G fn (args ks) (hpL G L) (keys L) (.ret v [])) (hv : flatV v = true) (hgok : GOK G W)
    (h1 : b.fx) (h2 : b2.fx) (w1 : W.heap[k]? = some b.obj0) (w2 : W.heap[k2]? = some b2.obj0) (r1 : ∃ c T fr, b = ⟨c, .raw T fr⟩) (r2 : ∃ c T fr, b2 = ⟨c, .raw T fr⟩) (n1 : ∀ g c, G g = some c → k ≠ g) (n2 : ∀ g c, G g = some c → k2 ≠ g) {args' : Array Value}
    (ha : ∀ ks, ks = 100 ∧ k = k2 ∨ ks = 108 → (args ks).map (ren (nmL k k2)) = args') : CallsS P fn args' W fun e W' => e = .returned v ∧ Below W.heap.size W W' := by
  by_cases e : k = k2
  · subst e
    obtain rfl := raw_same w1 w2 r1 r2
    have := fun_L (nmL k k) hGF (hF _ _ (LTwo.one h1)) hv hgok (LTwo.one (G := G) h1).ok (LTwo.one (G := G) h1).fx (by simp [w1]) (by simp; exact n1) (by simp) (nmL_low k k)
    rwa [ha 100 (.inl ⟨rfl, rfl⟩)] at this
  · have := fun_L (nmL k k2) hGF (hF _ _ (LTwo.two h1 h2)) hv hgok (LTwo.two (G := G) h1 h2).ok (LTwo.two (G := G) h1 h2).fx (by simp [w1, w2]) (by simp; exact ⟨n1, n2⟩) (by simp; exact ⟨fun h => e h, fun h => e h.symm⟩) (nmL_low k k2)
    rwa [ha 108 (.inr rfl)] at this
theorem cells_ints : Tryd.prog.cellsOf 34 = 1 := by kernel_rfl
theorem cells_conf : Tryd.prog.cellsOf 36 = 6 := by kernel_rfl
theorem ctypes_conf : Tryd.prog.cellTypes Tryd.prog.depth 36 = some [34, 3, 3, 3, 3, 3] := by kernel_rfl
theorem bytes_int : Tryd.prog.bytesOf 3 = 8 := by kernel_rfl
theorem lies_namesI (d c o n : Nat) : liesAt Tryd.prog d 123 c o 3 n = false := by
  cases d with
  | zero => rfl
  | succ d =>
    unfold liesAt
    rw [rowAt_names (by kernel_rfl) (by kernel_rfl), Tryd.underlying3]
    rfl
theorem lies_wideI (d c o n : Nat) : liesAt Tryd.prog d 28 c o 3 n = false := by
  cases d with
  | zero => rfl
  | succ d =>
    unfold liesAt
    rw [rowAt_wide (by kernel_rfl) (by kernel_rfl), Tryd.underlying3]
    rfl
theorem G0_liesI : ∀ p ∈ G0L, ∃ t, p.2.T = .ty t ∧ ∀ d c o n, liesAt Tryd.prog d t c o 3 n = false := by
  intro p hp
  unfold G0L at hp
  rcases List.mem_cons.1 hp with rfl | hp
  · exact ⟨_, rfl, lies_wideI⟩
  rcases List.mem_cons.1 hp with rfl | hp
  · exact ⟨_, rfl, lies_namesI⟩
  cases hp
structure CfAt (W : World) (k off n cap : Nat) (b : Blk) (f : Nat → Int) : Prop where
  le : n ≤ cap
  heap : W.heap[k]? = some b.obj0
  fx : b.fx
  raw : ∃ c T fr, b = ⟨c, .raw T fr⟩
  rd : rdI b off cap f
  i6 : ∀ j, j < cap → i64 (f j)
  lies : ∃ row c, W.shape? k = some (row, c) ∧ liesAt Tryd.prog Tryd.prog.depth row (c / Tryd.prog.cellsOf row) off 3 cap = true
theorem CfAt.mb {W : World} {k off n cap : Nat} {b : Blk} {f : Nat → Int} (h : CfAt W k off n cap b f) (hn : n ≤ 17592186044416) : MB b off n f := ⟨h.rd.le h.le, h.fx, fun j hj => h.i6 j (Nat.lt_of_lt_of_le hj h.le), hn⟩
theorem CfAt.ne {W : World} {k off n cap : Nat} {b : Blk} {f : Nat → Int} (h : CfAt W k off n cap b f) (hg : GOK G0 W) : ∀ g c, G0 g = some c → k ≠ g := fun g c hc e => by
  have h1 := hg g c hc
  obtain ⟨t, ht, hl'⟩ := G0_liesI _ (G0_mem hc)
  obtain ⟨row, q, hsh, hl⟩ := h.lies
  rw [e] at hsh
  unfold World.shape? at hsh
  rw [h1] at hsh
  obtain ⟨cc, T⟩ := c
  simp only at ht
  subst ht
  simp only [Blk.obj0, Option.some.injEq, Prod.mk.injEq] at hsh
  obtain ⟨rfl, rfl⟩ := hsh
  rw [hl'] at hl
  cases hl
section
variable {H : Type} {enc : TypeId × Value → H} {w : World} {held : Bool}
theorem trod_struct6 {P : Program} {base : Nat} {spare : Nat → Bool} {t : TypeId} {f0 f1 f2 f3 f4 f5 : Field} {fuel : Nat} {cs : List Value} {x : DataW H × List MemPlace} (ht : P.underlying t = some (.struct #[f0, f1, f2, f3, f4, f5])) (h : DataW.trod enc P w base spare held fuel t cs = some x) :
    ∃ y0 y1 y2 y3 y4 y5 n, x.1 = .agg [y0.1, y1.1, y2.1, y3.1, y4.1, y5.1] ∧ DataW.trod enc P w base spare held n f0.type ((cs.drop f0.offset).take (P.cellsOf f0.type)) = some y0 ∧ DataW.trod enc P w base spare held n f1.type ((cs.drop f1.offset).take (P.cellsOf f1.type)) = some y1 ∧
      DataW.trod enc P w base spare held n f2.type ((cs.drop f2.offset).take (P.cellsOf f2.type)) = some y2 ∧ DataW.trod enc P w base spare held n f3.type ((cs.drop f3.offset).take (P.cellsOf f3.type)) = some y3 ∧ DataW.trod enc P w base spare held n f4.type ((cs.drop f4.offset).take (P.cellsOf f4.type)) = some y4 ∧ DataW.trod enc P w base spare held n f5.type ((cs.drop f5.offset).take (P.cellsOf f5.type)) = some y5 := by
  obtain ⟨xs, n, _, hx, hl, hlen, hf⟩ := DataW.trod_struct ht h
  match xs, hlen with
  | [y0, y1, y2, y3, y4, y5], _ => exact ⟨y0, y1, y2, y3, y4, y5, n, by rw [hx]; rfl, by simpa using hf 0 f0 rfl, by simpa using hf 1 f1 rfl, by simpa using hf 2 f2 rfl, by simpa using hf 3 f3 rfl, by simpa using hf 4 f4 rfl, by simpa using hf 5 f5 rfl⟩
theorem trod_conf {fuel : Nat} {cs : List Value} {x : DataW H × List MemPlace} (h : DataW.trod enc Tryd.prog w 0 (fun _ => true) held fuel 36 cs = some x) :
    ∃ y0 y1 y2 y3 y4 y5 n, x.1 = .agg [y0.1, y1.1, y2.1, y3.1, y4.1, y5.1] ∧ DataW.trod enc Tryd.prog w 0 (fun _ => true) held n 34 ((cs.drop 0).take 1) = some y0 ∧ DataW.trod enc Tryd.prog w 0 (fun _ => true) held n 3 ((cs.drop 1).take 1) = some y1 ∧ DataW.trod enc Tryd.prog w 0 (fun _ => true) held n 3 ((cs.drop 2).take 1) = some y2 ∧
      DataW.trod enc Tryd.prog w 0 (fun _ => true) held n 3 ((cs.drop 3).take 1) = some y3 ∧ DataW.trod enc Tryd.prog w 0 (fun _ => true) held n 3 ((cs.drop 4).take 1) = some y4 ∧ DataW.trod enc Tryd.prog w 0 (fun _ => true) held n 3 ((cs.drop 5).take 1) = some y5 := by
  obtain ⟨y0, y1, y2, y3, y4, y5, n, hx, f0, f1, f2, f3, f4, f5⟩ := trod_struct6 Tryd.underlying36 h
  rw [cells_ints] at f0
  rw [celln_int] at f1 f2 f3 f4 f5
  exact ⟨y0, y1, y2, y3, y4, y5, n, hx, f0, f1, f2, f3, f4, f5⟩
theorem open_conf {r : Reach} {b0 : Nat} {v : Value} {d : DataW H} {p : List MemPlace} (hv : Value.okWide Tryd.prog w r b0 36 v) (h : DataW.Trod enc Tryd.prog w 0 (fun _ => true) held 36 v d p) :
    ∃ g bx tp nr md, i64 g ∧ i64 bx ∧ i64 tp ∧ i64 nr ∧ i64 md ∧ (v = cfV (.slice none 0 0) g bx tp nr md ∨ ∃ (k off n cap : Nat) (b : Blk) (f : Nat → Int), v = cfV (.slice (some ⟨k, off, none⟩) n cap) g bx tp nr md ∧ CfAt w k off n cap b f) := by
  simp only [Value.okWide, Tryd.underlying36] at hv
  obtain ⟨cs, rfl, hsz, ts, hts, _, hall⟩ := hv
  rw [ctypes_conf] at hts
  simp only [Option.some.injEq] at hts
  subst hts
  obtain ⟨fuel, hf⟩ := h
  obtain ⟨y0, y1, y2, y3, y4, y5, n, _, h0, h1, h2, h3, h4, h5⟩ := trod_conf hf
  simp only [Value.cells] at h0 h1 h2 h3 h4 h5
  obtain ⟨g, e1, _, w1⟩ := DataW.trod_int Tryd.underlying3 h1
  obtain ⟨bx, e2, _, w2⟩ := DataW.trod_int Tryd.underlying3 h2
  obtain ⟨tp, e3, _, w3⟩ := DataW.trod_int Tryd.underlying3 h3
  obtain ⟨nr, e4, _, w4⟩ := DataW.trod_int Tryd.underlying3 h4
  obtain ⟨md, e5, _, w5⟩ := DataW.trod_int Tryd.underlying3 h5
  rw [cells_conf] at hsz
  obtain ⟨c0, c1, c2, c3, c4, c5, rfl⟩ : ∃ c0 c1 c2 c3 c4 c5, cs = #[c0, c1, c2, c3, c4, c5] := by
    obtain ⟨l⟩ := cs
    match l, hsz with
    | [c0, c1, c2, c3, c4, c5], _ => exact ⟨c0, c1, c2, c3, c4, c5, rfl⟩
  simp at e1 e2 e3 e4 e5
  subst e1 e2 e3 e4 e5
  refine ⟨g, bx, tp, nr, md, wf_i64 w1, wf_i64 w2, wf_i64 w3, wf_i64 w4, wf_i64 w5, ?_⟩
  rcases open_ints Tryd.underlying34 Tryd.underlying3 celln_int h0 with ⟨e0, _⟩ | ⟨a, len, cap, zs, e0, _, hle, _, hzl, _, hc, hw⟩
  · simp at e0
    subst e0
    exact .inl rfl
  · simp at e0
    subst e0
    right
    rw [if_pos rfl] at hzl
    obtain ⟨u, hu, hok⟩ := hall 0 _ rfl
    simp at hu
    subst hu
    simp only [Cell.okWide, Cell.ok, Tryd.underlying34] at hok
    obtain ⟨_, _, _, hsp, row, cells, hsh, hlies⟩ := hok
    obtain ⟨k, off, sp⟩ := a
    simp only at hsp hsh hlies
    subst hsp
    have hsh' := hsh
    unfold World.shape? at hsh'
    split at hsh'
    · rename_i c T fr hh
      simp only [Option.some.injEq, Prod.mk.injEq] at hsh'
      obtain ⟨rfl, rfl⟩ := hsh'
      refine ⟨k, off, len, cap, ⟨c, .raw T fr⟩, fun j => zs.getD j 0, rfl, hle, hh, trivial, ⟨c, T, fr, rfl⟩, fun j hj => ?_, fun j hj => ?_, T, _, hsh, hlies⟩
      · have h2 := hc j (by omega)
        rw [Addr.add_lit] at h2
        simpa [World.cell?, hh] using h2
      · have hjz : j < zs.length := by omega
        exact wf_i64 (hw _ (by simp [List.getD, List.getElem?_eq_getElem hjz]))
    · cases hsh'
theorem cap_leC {g bx tp nr md : Int} {a : Addr} {n cap : Nat} {d : DataW H} {p : List MemPlace} (h : DataW.Trod enc Tryd.prog w 0 (fun _ => true) held 36 (cfV (.slice (some a) n cap) g bx tp nr md) d p) (hw : ∀ x ∈ d.weights Tryd.prog 36, x ≤ reachBytes) : cap ≤ 17592186044416 := by
  obtain ⟨fuel, hf⟩ := h
  obtain ⟨y0, y1, y2, y3, y4, y5, m, hx, h0, _⟩ := trod_conf hf
  simp only [cfV, Value.cells] at h0
  rcases Deep.open_slice Tryd.underlying34 h0 with ⟨e1, _⟩ | ⟨a', len, cap', m', n', D, Pl, e1, _, hlc, hcm, hm, hy1, _⟩
  · simp at e1
  · simp at e1
    obtain ⟨rfl, rfl, rfl⟩ := e1
    rw [if_pos rfl] at hm
    subst hm
    rw [show d = _ from hx, hy1] at hw
    have := hw ((n + (m' - n)) * 8) (by
      simp only [DataW.weights, Tryd.underlying36]
      simp [DataW.weightsEach, DataW.weights, Tryd.underlying34, bytes_int])
    unfold reachBytes at this
    omega
end
end Go.Gy
