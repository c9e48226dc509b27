/-
  Lemmas of this claim, in their order (GyNP, GyNQ, GyH, GyHS, GyHP, GyHT, GyHC).
  Conditions: those of each theorem.
-/
import Derived.Test.YtlageemaenplfaaDoorGz07
import Derived.Test.YtlageemaenplfaaDoorCards
import Derived.Test.YtlageemaenplfaaDoorTie
import Derived.WalkKit
import Derived.ProofKit
import Derived.OpenShut
import Derived.Below
import Derived.ChangeSame
import Derived.Deep.DeepHandedRow
import Derived.Lib.LaidTab
import Derived.Deep.Slices
import Derived.ReadAgain
import Derived.Carry
import Derived.Deep.Strs
import Derived.ChangeSlices
namespace Go.Gy
set_option linter.unusedSimpArgs false
set_option linter.unusedVariables false
open Go Go.RowKit Go.Proofs
def m6N : List (Nat × Nat) := [(0, 44), (1, 45), (2, 46), (3, 47), (4, 43), (5, 48), (6, 49), (7, 9), (9, 10)]
def m6X : List (Nat × Nat) := [(3, 408), (7, 440), (8, 440)]
def m6D : List (Nat × Nat) := [(8, 7), (4, 3), (5, 3), (8, 3)]
def m6V (L : List (Nat × Blk)) (b b2 : Blk) (ks : Nat) (st st2 w0 w1 w2 : Int) (off n cap off2 n2 cap2 ca Ma : Nat) (ga f : Nat → Int) (cb : Nat) (Mb : Nat) (gb : Nat → Int) : Nat → Value
  | 0 => .agg #[.int .i64 st, .slice (some ⟨312, 0, none⟩) n ca]
  | 1 => .agg #[.int .i64 w0, .int .i64 w1, .int .i64 w2]
  | 2 => .agg #[.int .i64 (-w0), .int .i64 (-w1), .int .i64 (-w2)]
  | 3 => .tuple #[.agg #[.int .i64 st, .slice (some ⟨408, 0, none⟩) n cb], .int .i64 0]
  | 4 => .tuple #[.agg #[.int .i64 st, .slice (some ⟨408, 0, none⟩) n cb], .int .i64 0]
  | 5 => .agg #[.int .i64 st, .slice (some ⟨408, 0, none⟩) n cb]
  | 6 => .int .i64 0
  | 7 => .pointer (some ⟨440, 0, none⟩)
  | 9 => .int .i64 0
  | _ => .bool true
def m6Bk (L : List (Nat × Blk)) (b b2 : Blk) (ks : Nat) (st st2 w0 w1 w2 : Int) (off n cap off2 n2 cap2 ca Ma : Nat) (ga f : Nat → Int) (cb : Nat) (Mb : Nat) (gb : Nat → Int) : Nat → Blk
  | 3 => ⟨fa Mb .i64 gb, .ty 42⟩
  | 7 => ⟨#[.int .i64 0, .slice none 0 0], .ty 27⟩
  | 8 => ⟨#[.int .i64 st, .slice (some ⟨408, 0, none⟩) n cb], .ty 27⟩
  | _ => ⟨#[], .mp⟩
structure m6F (L : List (Nat × Blk)) (b b2 : Blk) (ks : Nat) (st st2 w0 w1 w2 : Int) (off n cap off2 n2 cap2 ca Ma : Nat) (ga f : Nat → Int) (ts0 : Nat → Value) (hp0 : Hp) : Prop where
  e3 : ts0 3 = .pointer (some ⟨200, 0, none⟩)
  e4 : ts0 4 = .pointer (some ⟨208, 0, none⟩)
  e5 : ts0 5 = .pointer (some ⟨216, 0, none⟩)
  e7 : ts0 7 = .pointer (some ⟨344, 0, none⟩)
  b312 : hp0 312 = some (⟨fa Ma .i64 ga, .ty 42⟩)
  b344 : hp0 344 = some (⟨#[.int .i64 st, .slice (some ⟨312, 0, none⟩) n ca], .ty 27⟩)
  b216 : hp0 216 = some (⟨#[.int .i64 w0, .int .i64 w1, .int .i64 w2], .ty 40⟩)
  b200 : hp0 200 = some (⟨#[.int .i64 st, .slice (some ⟨100, off, none⟩) n cap], .ty 27⟩)
  b208 : hp0 208 = some (⟨#[.int .i64 st2, .slice (some ⟨ks, off2, none⟩) n2 cap2], .ty 27⟩)
  low : ∀ k, k < 100 → hp0 k = G0 k
  bL : ∀ p ∈ L, hp0 p.1 = some p.2
theorem m6N1 : (m6N.map Prod.fst).Nodup := by decide +kernel
theorem m6N2 : (m6N.map Prod.snd).Nodup := by decide +kernel
theorem m6X1 : (m6X.map Prod.fst).Nodup := by decide +kernel
theorem m6X200 : ∀ k, k < 200 → k ∉ m6X.map Prod.snd := fun k hk => by simp [m6X]; try omega
def mpN : List (Nat × Nat) := [(0, 80), (1, 81), (2, 82), (3, 83), (4, 84), (5, 85), (6, 13), (7, 14), (8, 15)]
def mpX : List (Nat × Nat) := [(1, 904), (3, 920), (5, 936)]
def mpD : List (Nat × Nat) := [(6, 1), (7, 3), (8, 5)]
def mpV (L : List (Nat × Blk)) (b b2 : Blk) (ks : Nat) (st st2 : Int) (off n cap off2 n2 cap2 ca Ma cb Mb cv Mv m : Nat) (ga gb gv f2 : Nat → Int) (l : List Pr) (c1 : Nat) (g1 : Nat → Int) (c2 : Nat) (g2 : Nat → Int) (c3 : Nat) (g3 : Nat → Int) : Nat → Value
  | 0 => .agg #[.int .i64 st, .slice (some ⟨100, off, none⟩) n cap]
  | 1 => .slice (some ⟨904, 0, none⟩) l.length c1
  | 2 => .agg #[.int .i64 st, .slice (some ⟨312, 0, none⟩) n ca]
  | 3 => .slice (some ⟨920, 0, none⟩) l.length c2
  | 4 => .agg #[.int .i64 st2, .slice (some ⟨472, 0, none⟩) n cv]
  | 5 => .slice (some ⟨936, 0, none⟩) l.length c3
  | 6 => .slice (some ⟨904, 0, none⟩) l.length c1
  | 7 => .slice (some ⟨920, 0, none⟩) l.length c2
  | 8 => .slice (some ⟨936, 0, none⟩) l.length c3
  | _ => .bool true
def mpBk (L : List (Nat × Blk)) (b b2 : Blk) (ks : Nat) (st st2 : Int) (off n cap off2 n2 cap2 ca Ma cb Mb cv Mv m : Nat) (ga gb gv f2 : Nat → Int) (l : List Pr) (c1 : Nat) (g1 : Nat → Int) (c2 : Nat) (g2 : Nat → Int) (c3 : Nat) (g3 : Nat → Int) : Nat → Blk
  | 1 => ⟨fa (3 * c1) .i64 g1, .ty 36⟩
  | 3 => ⟨fa (3 * c2) .i64 g2, .ty 36⟩
  | 5 => ⟨fa (3 * c3) .i64 g3, .ty 36⟩
  | _ => ⟨#[], .mp⟩
structure mpF (L : List (Nat × Blk)) (b b2 : Blk) (ks : Nat) (st st2 : Int) (off n cap off2 n2 cap2 ca Ma cb Mb cv Mv m : Nat) (ga gb gv f2 : Nat → Int) (l : List Pr) (ts0 : Nat → Value) (hp0 : Hp) : Prop where
  e3 : ts0 3 = .pointer (some ⟨200, 0, none⟩)
  e4 : ts0 4 = .pointer (some ⟨208, 0, none⟩)
  e7 : ts0 7 = .pointer (some ⟨344, 0, none⟩)
  e9 : ts0 9 = .pointer (some ⟨440, 0, none⟩)
  e10 : ts0 10 = .int .i64 0
  e11 : ts0 11 = .pointer (some ⟨480, 0, none⟩)
  b200 : hp0 200 = some (⟨#[.int .i64 st, .slice (some ⟨100, off, none⟩) n cap], .ty 27⟩)
  b344 : hp0 344 = some (⟨#[.int .i64 st, .slice (some ⟨312, 0, none⟩) n ca], .ty 27⟩)
  b312 : hp0 312 = some (⟨fa Ma .i64 ga, .ty 42⟩)
  b440 : hp0 440 = some (⟨#[.int .i64 st, .slice (some ⟨408, 0, none⟩) n cb], .ty 27⟩)
  b408 : hp0 408 = some (⟨fa Mb .i64 gb, .ty 42⟩)
  b480 : hp0 480 = some (⟨#[.int .i64 st2, .slice (some ⟨472, 0, none⟩) n cv], .ty 27⟩)
  b472 : hp0 472 = some (⟨fa Mv .i64 (vlG gv f2 m), .ty 42⟩)
  low : ∀ k, k < 100 → hp0 k = G0 k
  bL : ∀ p ∈ L, hp0 p.1 = some p.2
theorem mpN1 : (mpN.map Prod.fst).Nodup := by decide +kernel
theorem mpN2 : (mpN.map Prod.snd).Nodup := by decide +kernel
theorem mpX1 : (mpX.map Prod.fst).Nodup := by decide +kernel
theorem mpX200 : ∀ k, k < 200 → k ∉ mpX.map Prod.snd := fun k hk => by simp [mpX]; try omega
def mnN : List (Nat × Nat) := [(0, 80), (1, 81), (2, 82), (3, 83), (4, 84), (5, 85), (6, 13), (7, 14), (8, 15)]
def mnX : List (Nat × Nat) := []
def mnD : List (Nat × Nat) := []
def mnV (L : List (Nat × Blk)) (b b2 : Blk) (ks : Nat) (st st2 : Int) (off n cap off2 n2 cap2 ca Ma cb Mb cv Mv m : Nat) (ga gb gv f2 : Nat → Int) (l : List Pr)  : Nat → Value
  | 0 => .agg #[.int .i64 st, .slice (some ⟨100, off, none⟩) n cap]
  | 1 => .slice none 0 0
  | 2 => .agg #[.int .i64 st, .slice (some ⟨312, 0, none⟩) n ca]
  | 3 => .slice none 0 0
  | 4 => .agg #[.int .i64 st2, .slice (some ⟨472, 0, none⟩) n cv]
  | 5 => .slice none 0 0
  | 6 => .slice none 0 0
  | 7 => .slice none 0 0
  | 8 => .slice none 0 0
  | _ => .bool true
def mnBk (L : List (Nat × Blk)) (b b2 : Blk) (ks : Nat) (st st2 : Int) (off n cap off2 n2 cap2 ca Ma cb Mb cv Mv m : Nat) (ga gb gv f2 : Nat → Int) (l : List Pr)  : Nat → Blk

  | _ => ⟨#[], .mp⟩
structure mnF (L : List (Nat × Blk)) (b b2 : Blk) (ks : Nat) (st st2 : Int) (off n cap off2 n2 cap2 ca Ma cb Mb cv Mv m : Nat) (ga gb gv f2 : Nat → Int) (l : List Pr) (ts0 : Nat → Value) (hp0 : Hp) : Prop where
  e3 : ts0 3 = .pointer (some ⟨200, 0, none⟩)
  e4 : ts0 4 = .pointer (some ⟨208, 0, none⟩)
  e7 : ts0 7 = .pointer (some ⟨344, 0, none⟩)
  e9 : ts0 9 = .pointer (some ⟨440, 0, none⟩)
  e10 : ts0 10 = .int .i64 0
  e11 : ts0 11 = .pointer (some ⟨480, 0, none⟩)
  b200 : hp0 200 = some (⟨#[.int .i64 st, .slice (some ⟨100, off, none⟩) n cap], .ty 27⟩)
  b344 : hp0 344 = some (⟨#[.int .i64 st, .slice (some ⟨312, 0, none⟩) n ca], .ty 27⟩)
  b312 : hp0 312 = some (⟨fa Ma .i64 ga, .ty 42⟩)
  b440 : hp0 440 = some (⟨#[.int .i64 st, .slice (some ⟨408, 0, none⟩) n cb], .ty 27⟩)
  b408 : hp0 408 = some (⟨fa Mb .i64 gb, .ty 42⟩)
  b480 : hp0 480 = some (⟨#[.int .i64 st2, .slice (some ⟨472, 0, none⟩) n cv], .ty 27⟩)
  b472 : hp0 472 = some (⟨fa Mv .i64 (vlG gv f2 m), .ty 42⟩)
  low : ∀ k, k < 100 → hp0 k = G0 k
  bL : ∀ p ∈ L, hp0 p.1 = some p.2
theorem mnN1 : (mnN.map Prod.fst).Nodup := by decide +kernel
theorem mnN2 : (mnN.map Prod.snd).Nodup := by decide +kernel
theorem mnX200 : ∀ k, k < 200 → k ∉ mnX.map Prod.snd := fun k hk => by simp [mnX]; try omega
def nmSt (L : List (Nat × Blk)) (ks : Nat) (st st2 : Int) (off n cap off2 n2 cap2 ca Ma cb Mb cv Mv : Nat) (ga gb gv f2 : Nat → Int) (i : Nat) : GS :=
  ⟨tsL [(3, .pointer (some ⟨200, 0, none⟩)), (4, .pointer (some ⟨208, 0, none⟩)), (7, .pointer (some ⟨344, 0, none⟩)), (9, .pointer (some ⟨440, 0, none⟩)), (10, .int .i64 0), (11, .pointer (some ⟨480, 0, none⟩)), (12, .int .i64 i)],
   hpL G0 ([(200, stB' st 100 off n cap), (208, stB' st2 ks off2 n2 cap2), (312, ⟨fa Ma .i64 ga, .ty 42⟩), (344, stB' st 312 0 n ca), (408, ⟨fa Mb .i64 gb, .ty 42⟩), (440, stB' st 408 0 n cb), (472, ⟨fa Mv .i64 (vlG gv f2 i), .ty 42⟩), (480, stB' st2 472 0 n cv)] ++ L), 800, 0⟩
def nmE (L : List (Nat × Blk)) (ks : Nat) (st st2 : Int) (off n cap off2 n2 cap2 ca Ma cb Mb cv Mv : Nat) (ga gb gv f2 : Nat → Int) (m : Nat) : GS :=
  ⟨tsL [(3, .pointer (some ⟨200, 0, none⟩)), (4, .pointer (some ⟨208, 0, none⟩)), (7, .pointer (some ⟨344, 0, none⟩)), (9, .pointer (some ⟨440, 0, none⟩)), (10, .int .i64 0), (11, .pointer (some ⟨480, 0, none⟩))],
   hpL G0 ([(200, stB' st 100 off n cap), (208, stB' st2 ks off2 n2 cap2), (312, ⟨fa Ma .i64 ga, .ty 42⟩), (344, stB' st 312 0 n ca), (408, ⟨fa Mb .i64 gb, .ty 42⟩), (440, stB' st 408 0 n cb), (472, ⟨fa Mv .i64 (vlG gv f2 m), .ty 42⟩), (480, stB' st2 472 0 n cv)] ++ L), 896, 0⟩
theorem vput_le {M n i : Nat} (hM : 6 * n ≤ M) (hi : i < n) : i * 6 + 3 + 3 ≤ M := by omega
theorem vput_row {M n : Nat} {g f : Nat → Int} (hM : 6 * n ≤ M) {i : Nat} (hi : i < n) :
    (((fa M IntKind.i64 (vlG g f i)).setIfInBounds (i * 6 + 3) (Value.int IntKind.i64 (f (6 * i + 3)))).setIfInBounds (i * 6 + 3 + 1) (Value.int IntKind.i64 (f (6 * i + 4)))).setIfInBounds (i * 6 + 3 + 1 + 1) (Value.int IntKind.i64 (f (6 * i + 5))) = fa M IntKind.i64 (vlG g f (i + 1)) := by
  have := splice_3 M .i64 (vlG g f i) (6 * i + 3) (f (6 * i + 3)) (f (6 * i + 4)) (f (6 * i + 5)) (by omega)
  rw [vlG_put] at this
  rw [show i * 6 = 6 * i by omega]
  simpa [splice] using this
set_option maxRecDepth 8000 in
set_option maxHeartbeats 16000000 in
theorem NearMoved_fun (L : List (Nat × Blk)) (ks : Nat) (b b2 : Blk) (hT : LTwo G0 L ks b b2) (off n cap : Nat) (f : Nat → Int) (h : SB b off n f) (hcap : n ≤ cap) (off2 n2 cap2 : Nat) (f2 : Nat → Int) (h2 : SB b2 off2 n2 f2) (hcap2 : n2 ≤ cap2) (st st2 w0 w1 w2 : Int) (hs : i64 st) (hs2 : i64 st2) (hw0 : i64 w0) (hw1 : i64 w1) (hw2 : i64 w2) :
    Fun Tryd.prog G0 4 #[.agg #[.int .i64 st, .slice (some ⟨100, off, none⟩) n cap], .agg #[.int .i64 st2, .slice (some ⟨ks, off2, none⟩) n2 cap2], .agg #[.int .i64 w0, .int .i64 w1, .int .i64 w2]] (hpL G0 L) (keys L) (.ret (.bool true) []) := by
  refine fun_ofL (B := 200) G0F Tryd.func4 rfl Tryd.call4 hT.ok ?_ (by simp) (by simp) (by simp) (by simp [Tryd.ntmps4]) (by omega) ?_
  · simp [idsV, idsA, idsF, ids0, hT.ia, hT.ib]
  intro C hC hC0 hY
  have hr := fun ρ => Blk.fx_rn h.fx ρ
  have hr2 := fun ρ => Blk.fx_rn h2.fx ρ
  have hid := fun D => Blk.fx_ids h.fx D
  have hid2 := fun D => Blk.fx_ids h2.fx D
  have hA := hT.a
  have hS := hT.s
  have hne := hT.ne
  have hLow := hT.low
  have hks := hT.k1
  have hnn := h.nn
  cases c0 : rightB st f n with
  | false =>
    repeat' (first | refine gwS ?_ | simp only [wN, wM, Nat.reduceAdd, Nat.reduceMul] | ((first | refine gwR [7] ?_ | refine gwD [7] ?_); intro Q hQ hP; simp [hC, hY, c0, hA, hS, hne]; (repeat ((first | (refine heapK_mv (rig10_fun b off n cap f h st) G0F (B := 200) (oneL_ok h.fx) (fun k => k) (fun k hk => rfl) ?_ (by simp) (by simp [hr, hA]) (by simp [keys]) (by simp [keys]; rfl) ?_; focus (simp [ren, renA, renF, ren0]; done))); try simp [hC, hY, c0, hA, hS, hne])); (first | refine hQ _ _ _ _ (by kernel_rfl) ?_ | refine hP _ _ (by kernel_rfl) fun _ => ?_); clear hQ hP Q) | refine gwB ?_ | refine gwT ?_ | refine gwK ?_ | refine gwE ?_ | refine gwG ?_ | refine gwL ?_ | simp only [blockG_exit] | (refine gwC ?_ ?_ <;> (intro hb; first | (cases hb; done) | skip)))
    refine ⟨.inr rfl, by simp [Tryd.results4], keep_of G0F (by (intro p hp; have hpb := hT.ok.big p hp; first | rfl | (simp (disch := omega) only [addB, upd_other, hpL_cons, hpL_nil, if_neg, updL, List.cons_append, List.nil_append] <;> done))) (by (intro k hk; first | exact hLow k hk | (simp (disch := omega) only [hLow, addB, List.mem_cons, List.not_mem_nil, or_false, upd_other, hpL_cons, hpL_nil, if_neg, updL, List.cons_append, List.nil_append] <;> done)))⟩
  | true =>
  cases c2 : rightB st2 f2 n2 with
  | false =>
    repeat' (first | refine gwS ?_ | simp only [wN, wM, Nat.reduceAdd, Nat.reduceMul] | ((first | refine gwR [7] ?_ | refine gwD [7] ?_); intro Q hQ hP; simp [hC, hY, c0, c2, hA, hS, hne]; (repeat ((first | (refine heapK_mv (rig10_fun b off n cap f h st) G0F (B := 200) (oneL_ok h.fx) (fun k => k) (fun k hk => rfl) ?_ (by simp) (by simp [hr, hA]) (by simp [keys]) (by simp [keys]; rfl) ?_; focus (simp [ren, renA, renF, ren0]; done)) | (refine heapK_mv (rig10_fun b2 off2 n2 cap2 f2 h2 st2) G0F (B := 200) (oneL_ok h2.fx) (fun k => if k = 100 then ks else k) (fun k hk => if_neg (by omega)) ?_ (by simp) (by simp [hr2, hS, hne, hks]) (by simp [keys]) (by simp [keys]; rfl) ?_; focus (simp [ren, renA, renF, ren0]; done))); try simp [hC, hY, c0, c2, hA, hS, hne])); (first | refine hQ _ _ _ _ (by kernel_rfl) ?_ | refine hP _ _ (by kernel_rfl) fun _ => ?_); clear hQ hP Q) | refine gwB ?_ | refine gwT ?_ | refine gwK ?_ | refine gwE ?_ | refine gwG ?_ | refine gwL ?_ | simp only [blockG_exit] | (refine gwC ?_ ?_ <;> (intro hb; first | (cases hb; done) | skip)))
    refine ⟨.inr rfl, by simp [Tryd.results4], keep_of G0F (by (intro p hp; have hpb := hT.ok.big p hp; first | rfl | (simp (disch := omega) only [addB, upd_other, hpL_cons, hpL_nil, if_neg, updL, List.cons_append, List.nil_append] <;> done))) (by (intro k hk; first | exact hLow k hk | (simp (disch := omega) only [hLow, addB, List.mem_cons, List.not_mem_nil, or_false, upd_other, hpL_cons, hpL_nil, if_neg, updL, List.cons_append, List.nil_append] <;> done)))⟩
  | true =>
    have dA := moved_at 100 312 (by omega) (by omega) (by omega) b off n cap f h hcap st w0 w1 w2 hs
    have hMv : ∀ (F : Nat → Int) (E : Int), moR st f n w0 w1 w2 = F → moE st f n w0 w1 w2 = E → True := fun _ _ _ _ => trivial
    rcases mo_0 (w0 := w0) (w1 := w1) (w2 := w2) c0 with ⟨hE, c1⟩ | hE
    rotate_left
    · have hF : moR st f n w0 w1 w2 = f := by unfold moR; rw [hE, if_neg (by omega)]
      rw [hE, hF] at dA
      repeat' (first | refine gwS ?_ | simp only [wN, wM, Nat.reduceAdd, Nat.reduceMul] | ((first | refine gwR [7] ?_ | refine gwD [7] ?_); intro Q hQ hP; simp [hC, hY, c0, c2, hA, hS, hne]; (repeat ((first | (refine heapK_mv (rig10_fun b off n cap f h st) G0F (B := 200) (oneL_ok h.fx) (fun k => k) (fun k hk => rfl) ?_ (by simp) (by simp [hr, hA]) (by simp [keys]) (by simp [keys]; rfl) ?_; focus (simp [ren, renA, renF, ren0]; done)) | (refine heapK_mv (rig10_fun b2 off2 n2 cap2 f2 h2 st2) G0F (B := 200) (oneL_ok h2.fx) (fun k => if k = 100 then ks else k) (fun k hk => if_neg (by omega)) ?_ (by simp) (by simp [hr2, hS, hne, hks]) (by simp [keys]) (by simp [keys]; rfl) ?_; focus (simp [ren, renA, renF, ren0]; done))); try simp [hC, hY, c0, c2, hA, hS, hne])); (first | refine hQ _ _ _ _ (by kernel_rfl) ?_ | refine hP _ _ (by kernel_rfl) fun _ => ?_); clear hQ hP Q) | refine gwB ?_ | refine gwT ?_ | refine gwK ?_ | refine gwE ?_ | refine gwG ?_ | refine gwL ?_ | simp only [blockG_exit] | (refine gwC ?_ ?_ <;> (intro hb; first | (cases hb; done) | skip)))
      refine GW_list ?_
      simp only [Array.toList]
      refine GL_walk 2 [] rfl (by simp) (by kernel_rfl) ?_; intro q hq; simp [hC, hY, hA, hS, hne]; refine hq _ _ _ _ ?_; clear hq q
      simp only [wT, List.length_cons, List.length_nil, Nat.reduceAdd]
      refine GL_callL (f := .func 14) (cap := #[]) hC dA rfl (by simp) rfl rfl (by simp [okT]) (by simp [gev]) (by simp) (by simp [okX, junk]) (by simp [gev]) (by simp [hA]) (by (intro k hk; first | exact hLow k hk | (simp (disch := omega) only [hLow, addB, List.mem_cons, List.not_mem_nil, or_false, upd_other, hpL_cons, hpL_nil, if_neg, updL, List.cons_append, List.nil_append] <;> done))) ?_ ?_
      · intro v ns hV k hk
        rw [driftR_key hV k hk]
        omega
      rintro v ns ⟨w, ⟨ca, Ma, ga, k1a, k2a, k3a, rfl, rfl⟩, rfl⟩
      refine GL_walk 6 [] rfl (by simp) (by kernel_rfl) ?_; intro q hq; simp [hC, hY, putT, updL]; refine hq _ _ _ _ ?_; clear hq q
      simp only [wT, List.length_cons, List.length_nil, Nat.reduceAdd]
      refine GL_nil ?_
      have hSo := nown_sb k2a k3a h.i6 hnn
      have hsame : sameB st st n n f f = true := sameB_iff.2 ⟨rfl, rfl, fun _ _ => rfl⟩
      repeat' (first | refine gwS ?_ | simp only [wN, wM, Nat.reduceAdd, Nat.reduceMul] | ((first | refine gwR [15] ?_ | refine gwD [15] ?_); intro Q hQ hP; simp [hC, hY, hsame, hA, hS, hne]; (repeat ((first | (refine heapK_mv (same_fun _ b 0 off n n ca cap f f hSo h st st) G0F (B := 200) (smL_ok hSo.fx h.fx) (fun k => if k = 100 then 312 else if k = 108 then 100 else k) (fun k hk => (if_neg (by omega)).trans (if_neg (by omega))) (by simp [ren, renA, renF, ren0]) (by simp) (by simp [smL, hr, fa_rn, hA]) (by simp [keys, smL]) (by simp [keys, smL]; rfl) ?_)); try simp [hC, hY, hsame, hA, hS, hne])); (first | refine hQ _ _ _ _ (by kernel_rfl) ?_ | refine hP _ _ (by kernel_rfl) fun _ => ?_); clear hQ hP Q) | refine gwB ?_ | refine gwT ?_ | refine gwK ?_ | refine gwE ?_ | refine gwG ?_ | refine gwL ?_ | simp only [blockG_exit] | (refine gwC ?_ ?_ <;> (intro hb; first | (cases hb; done) | skip)))
      refine ⟨.inr rfl, by simp [Tryd.results4], keep_of G0F (by (intro p hp; have hpb := hT.ok.big p hp; first | rfl | (simp (disch := omega) only [addB, upd_other, hpL_cons, hpL_nil, if_neg, updL, List.cons_append, List.nil_append] <;> done))) (by (intro k hk; first | exact hLow k hk | (simp (disch := omega) only [hLow, addB, List.mem_cons, List.not_mem_nil, or_false, upd_other, hpL_cons, hpL_nil, if_neg, updL, List.cons_append, List.nil_append] <;> done)))⟩
    · have hF : moR st f n w0 w1 w2 = moF f w0 w1 w2 := by unfold moR; rw [hE, if_pos rfl]
      rw [hE, hF] at dA
      obtain ⟨⟨v0a, v0b⟩, ⟨v1a, v1b⟩, ⟨v2a, v2b⟩⟩ := mo_w c0 c1
      have bq0 : Int.bmod (-w0) 18446744073709551616 = -w0 := bm (by omega) (by omega)
      have bq1 : Int.bmod (-w1) 18446744073709551616 = -w1 := bm (by omega) (by omega)
      have bq2 : Int.bmod (-w2) 18446744073709551616 = -w2 := bm (by omega) (by omega)
      have hok : ∀ i, i < n → eaE addI (f (6 * i)) (f (6 * i + 1)) (f (6 * i + 2)) w0 w1 w2 = 0 := fun i hi => mo_ok c0 c1 hi
      have hFi := mo_i64 h.i6 hok
      repeat' (first | refine gwS ?_ | simp only [wN, wM, Nat.reduceAdd, Nat.reduceMul] | ((first | refine gwR [7] ?_ | refine gwD [7] ?_); intro Q hQ hP; simp [hC, hY, c0, c2, hA, hS, hne]; (repeat ((first | (refine heapK_mv (rig10_fun b off n cap f h st) G0F (B := 200) (oneL_ok h.fx) (fun k => k) (fun k hk => rfl) ?_ (by simp) (by simp [hr, hA]) (by simp [keys]) (by simp [keys]; rfl) ?_; focus (simp [ren, renA, renF, ren0]; done)) | (refine heapK_mv (rig10_fun b2 off2 n2 cap2 f2 h2 st2) G0F (B := 200) (oneL_ok h2.fx) (fun k => if k = 100 then ks else k) (fun k hk => if_neg (by omega)) ?_ (by simp) (by simp [hr2, hS, hne, hks]) (by simp [keys]) (by simp [keys]; rfl) ?_; focus (simp [ren, renA, renF, ren0]; done))); try simp [hC, hY, c0, c2, hA, hS, hne])); (first | refine hQ _ _ _ _ (by kernel_rfl) ?_ | refine hP _ _ (by kernel_rfl) fun _ => ?_); clear hQ hP Q) | refine gwB ?_ | refine gwT ?_ | refine gwK ?_ | refine gwE ?_ | refine gwG ?_ | refine gwL ?_ | simp only [blockG_exit] | (refine gwC ?_ ?_ <;> (intro hb; first | (cases hb; done) | skip)))
      refine GW_list ?_
      simp only [Array.toList]
      refine GL_walk 2 [] rfl (by simp) (by kernel_rfl) ?_; intro q hq; simp [hC, hY, hA, hS, hne]; refine hq _ _ _ _ ?_; clear hq q
      simp only [wT, List.length_cons, List.length_nil, Nat.reduceAdd]
      refine GL_callL (f := .func 14) (cap := #[]) hC dA rfl (by simp) rfl rfl (by simp [okT]) (by simp [gev]) (by simp) (by simp [okX, junk]) (by simp [gev]) (by simp [hA]) (by (intro k hk; first | exact hLow k hk | (simp (disch := omega) only [hLow, addB, List.mem_cons, List.not_mem_nil, or_false, upd_other, hpL_cons, hpL_nil, if_neg, updL, List.cons_append, List.nil_append] <;> done))) ?_ ?_
      · intro v ns hV k hk
        rw [driftR_key hV k hk]
        omega
      rintro v ns ⟨w, ⟨ca, Ma, ga, k1a, k2a, k3a, rfl, rfl⟩, rfl⟩
      refine GL_walk 6 [] rfl (by simp) (by kernel_rfl) ?_; intro q hq; simp [hC, hY, putT, updL]; refine hq _ _ _ _ ?_; clear hq q
      simp only [wT, List.length_cons, List.length_nil, Nat.reduceAdd]
      refine GL_nil ?_
      repeat' (first | refine gwS ?_ | simp only [wN, wM, Nat.reduceAdd, Nat.reduceMul] | ((first | refine gwR [] ?_ | refine gwD [] ?_); intro Q hQ hP; simp [hC, hY, hA, hS, hne]; (first | refine hQ _ _ _ _ (by kernel_rfl) ?_ | refine hP _ _ (by kernel_rfl) fun _ => ?_); clear hQ hP Q) | refine gwB ?_ | refine gwT ?_ | refine gwK ?_ | refine gwE ?_ | refine gwG ?_ | refine gwL ?_ | simp only [blockG_exit] | (refine gwC ?_ ?_ <;> (intro hb; first | (cases hb; done) | skip)))
      have hSo := nown_sb k2a k3a hFi hnn
      have dB := moved_at 312 408 (by omega) (by omega) (by omega) _ 0 n ca (moF f w0 w1 w2) hSo k1a st (-w0) (-w1) (-w2) hs
      rw [mo_backE c0 c1, mo_backF c0 c1] at dB
      refine GW_any follows ?_
      simp only [Array.toList, List.append_eq, List.cons_append, List.nil_append, List.length_cons, List.length_nil, Nat.reduceAdd]
      refine GA_gen (m6F L b b2 ks st st2 w0 w1 w2 off n cap off2 n2 cap2 ca Ma ga f) ?_ ?_
      · refine ⟨by simp, by simp, by simp, by simp, by simp, by simp, by simp, by simp, by simp, ?_, ?_⟩
        · intro k hk
          simp (disch := omega) only [upd_other, updL, hpL_cons, hpL_nil, if_neg, hT.low]
        · intro p hp
          have hb := hT.ok.big p hp
          simp (disch := omega) only [upd_other, updL, hpL_cons, hpL_nil, if_neg]
          exact hT.mem p hp
      intro ts0 hp0 hF
      refine GA_ind (fun listed ts hp => ∃ cb Mb gb, (n ≤ cb ∧ 6 * n ≤ Mb ∧ ∀ j, j < 6 * n → gb j = f j) ∧ TJ m6N m6X m6D (m6V L b b2 ks st st2 w0 w1 w2 off n cap off2 n2 cap2 ca Ma ga f cb Mb gb) (m6Bk L b b2 ks st st2 w0 w1 w2 off n cap off2 n2 cap2 ca Ma ga f cb Mb gb) ts0 hp0 listed ts hp) (fun listed ts hp szR rdR hI => ?_) (fun fuel listed ts hp i szR hi hdep h hk => ?_) _ _ _ _ (by simp) (by decide +kernel) ?_
      · have hall' := ready_nilB szR (by kernel_rfl) rdR
        have hall : ∀ i, i < 10 → listed[i]? = some true := fun i hi => hall' i (by simpa using hi)
        obtain ⟨cb, Mb, gb, hinv, hI⟩ := hI
        have k3 : ts 3 = .pointer (some ⟨200, 0, none⟩) := (hI.t0 3 (by decide)).trans hF.e3
        have k4 : ts 4 = .pointer (some ⟨208, 0, none⟩) := (hI.t0 4 (by decide)).trans hF.e4
        have k7 : ts 7 = .pointer (some ⟨344, 0, none⟩) := (hI.t0 7 (by decide)).trans hF.e7
        have k9 : ts 9 = .pointer (some ⟨440, 0, none⟩) := hI.tm (7, 9) (by decide) (hall 7 (by omega))
        have k10 : ts 10 = .int .i64 0 := hI.tm (9, 10) (by decide) (hall 9 (by omega))
        have c200 : hp 200 = some (⟨#[.int .i64 st, .slice (some ⟨100, off, none⟩) n cap], .ty 27⟩) := (hI.ext (by decide)).trans hF.b200
        have c208 : hp 208 = some (⟨#[.int .i64 st2, .slice (some ⟨ks, off2, none⟩) n2 cap2], .ty 27⟩) := (hI.ext (by decide)).trans hF.b208
        have c312 : hp 312 = some (⟨fa Ma .i64 ga, .ty 42⟩) := (hI.ext (by decide)).trans hF.b312
        have c344 : hp 344 = some (⟨#[.int .i64 st, .slice (some ⟨312, 0, none⟩) n ca], .ty 27⟩) := (hI.ext (by decide)).trans hF.b344
        have c408 : hp 408 = some (⟨fa Mb .i64 gb, .ty 42⟩) := hI.bx (3, 408) (by decide) (hall 3 (by omega)) (by simp [m6X])
        have c440 : hp 440 = some (⟨#[.int .i64 st, .slice (some ⟨408, 0, none⟩) n cb], .ty 27⟩) := hI.bx (8, 440) (by decide) (hall 8 (by omega)) (by simp [m6X])
        have cL : ∀ p ∈ L, hp p.1 = some p.2 := fun p hp => (hI.ext (m6X200 _ (hT.ok.big p hp).2)).trans (hF.bL p hp)
        have clow : ∀ k, k < 100 → hp k = G0 k := fun k hk => (hI.ext (m6X200 _ (by omega))).trans (hF.low k hk)
        simp only [thenG_normal]
        refine GW_weak (weakLL [(3, .pointer (some ⟨200, 0, none⟩)), (4, .pointer (some ⟨208, 0, none⟩)), (7, .pointer (some ⟨344, 0, none⟩)), (9, .pointer (some ⟨440, 0, none⟩)), (10, .int .i64 0)] 464 hC G0F (m := [(200, stB' st 100 off n cap), (208, stB' st2 ks off2 n2 cap2), (312, ⟨fa Ma .i64 ga, .ty 42⟩), (344, stB' st 312 0 n ca), (408, ⟨fa Mb .i64 gb, .ty 42⟩), (440, stB' st 408 0 n cb)]) hT.ok hT.fx hC0 (by omega) ?_ ?_ ?_) ?_
        · simp [k3, k4, k7, k9, k10, idsV, idsA, idsF, ids0, dom]
        · simp [c200, c208, c312, c344, c408, c440, stB', ids_lit, idsF, ids0, dom, hA, hS, hne, Blk.fx_ids (fa_fx _ _ _)]
        · exact cL
        obtain ⟨k1b, k2b, k3b⟩ := hinv
        have hSb := nown_sb k2b k3b h.i6 hnn
        refine GW_seq ?_
        refine GW_list ?_
        simp only [Array.toList, List.cons_append, List.nil_append, stB']
        refine GL_walk 1 [] rfl (by simp) (by kernel_rfl) ?_; intro q hq; simp [hC, hY, hA, hS, hne]; refine hq _ _ _ _ ?_; clear hq q
        simp only [wT, List.length_cons, List.length_nil, Nat.reduceAdd]
        refine GL_callL (f := .func 17) (cap := #[]) hC (own10_at 472 (by omega) b off n cap f h hcap st) rfl (by simp) rfl rfl (by simp [okT]) (by simp [gev]) (by simp) (by simp [okX, junk]) (by simp [gev]) (by simp [hA]) (by (intro k hk; first | exact hLow k hk | (simp (disch := omega) only [hLow, addB, List.mem_cons, List.not_mem_nil, or_false, upd_other, hpL_cons, hpL_nil, if_neg, updL, List.cons_append, List.nil_append] <;> done))) ?_ ?_
        · rintro v ns ⟨cv, Mv, gv, k1v, k2v, k3v, rfl, rfl⟩
          simp [keys]
        rintro v ns ⟨cv, Mv, gv, k1v, k2v, k3v, rfl, rfl⟩
        refine GL_walk 2 [] rfl (by simp) (by kernel_rfl) ?_; intro q hq; simp [hC, hY, putT, updL]; refine hq _ _ _ _ ?_; clear hq q
        simp only [wT, List.length_cons, List.length_nil, Nat.reduceAdd]
        refine GL_nil ?_
        simp only [thenG_normal]
        refine GW_seq ?_
        ((first | refine gwR [] ?_ | refine gwD [] ?_); intro Q hQ hP; simp [hC, hY, hA, hS, hne]; (first | refine hQ _ _ _ _ (by kernel_rfl) ?_ | refine hP _ _ (by kernel_rfl) fun _ => ?_); clear hQ hP Q)
        simp only [wN, wM, Nat.reduceAdd, Nat.reduceMul]
        refine GW_seq ?_
        obtain ⟨m, hN1, hN2, hmc⟩ := min_two n n2
        refine GW_via (fun s' => Weak C s' (nmE L ks st st2 off n cap off2 n2 cap2 ca Ma cb Mb cv Mv ga gb gv f2 m)) ?_ ?_
        ·
          repeat' (first | refine gwS ?_ | simp only [wN, wM, Nat.reduceAdd, Nat.reduceMul] | ((first | refine gwR [] ?_ | refine gwD [] ?_); intro Q hQ hP; simp [hC, hY, hA, hS, hne]; (first | refine hQ _ _ _ _ (by kernel_rfl) ?_ | refine hP _ _ (by kernel_rfl) fun _ => ?_); clear hQ hP Q) | refine gwB ?_ | refine gwT ?_ | refine gwK ?_ | refine gwE ?_ | refine gwG ?_ | refine gwL ?_ | simp only [blockG_exit] | (refine gwC ?_ ?_ <;> (intro hb; first | (cases hb; done) | skip)))
          refine GW_for m (nmSt L ks st st2 off n cap off2 n2 cap2 ca Ma cb Mb cv Mv ga gb gv f2) ?_ ?_ ?_
          · refine weakLL _ 800 hC G0F hT.ok hT.fx hC0 (by omega) ?_ ?_ ?_
            · simp [idsV, idsA, idsF, ids0, dom]
            · simp [stB', vlG_0, ids_lit, idsF, ids0, dom, hA, hS, hne, Blk.fx_ids (fa_fx _ _ _)]
            · (intro p hp; have hpb := hT.ok.big p hp; dsimp only; simp (disch := omega) only [addB, upd_other, hpL_cons, hpL_nil, if_neg, updL, List.cons_append, List.nil_append]; first | exact hT.mem p hp | exact cL p hp)
          · intro i hi
            have hi1' : i < n := Nat.lt_of_lt_of_le hi hN1
            have hi2' : i < n2 := Nat.lt_of_lt_of_le hi hN2
            have hi1 : (i : Int) < n := Int.ofNat_lt.2 hi1'
            have hi2 : (i : Int) < n2 := Int.ofNat_lt.2 hi2'
            have hz : (0 : Int) ≤ i := Int.natCast_nonneg i
            have hs' := succ_bm hi1' hnn
            have hv := h2.vec (i := i) hi2' (u := 3) (by decide)
            have hM : i * 6 + 3 + 3 ≤ Mv := vput_le k2v hi1'
            unfold nmSt stB'
            repeat' (first | refine gwS ?_ | simp only [wN, wM, Nat.reduceAdd, Nat.reduceMul] | ((first | refine gwR [] ?_ | refine gwD [] ?_); intro Q hQ hP; simp [hC, hY, hA, hS, hne, hi1, hi2, hz, hs', hv, hM]; (first | refine hQ _ _ _ _ (by rcases hT.k8 with h8 | h8 <;> subst h8 <;> kernel_rfl) ?_ | refine hP _ _ (by rcases hT.k8 with h8 | h8 <;> subst h8 <;> kernel_rfl) fun _ => ?_); clear hQ hP Q) | refine gwB ?_ | refine gwT ?_ | refine gwK ?_ | refine gwE ?_ | refine gwG ?_ | refine gwL ?_ | simp only [blockG_exit] | (refine gwC ?_ ?_ <;> (intro hb; first | (cases hb; done) | skip)))
            refine weakLL _ 800 hC G0F hT.ok hT.fx hC0 (by omega) ?_ ?_ ?_
            · simp [idsV, idsA, idsF, ids0, dom, hs']
            · have hput := vput_row (g := gv) (f := f2) (i := i) k2v hi1'
              simp [hput, stB', ids_lit, idsF, ids0, dom, hA, hS, hne, Blk.fx_ids (fa_fx _ _ _)]
            · (intro p hp; have hpb := hT.ok.big p hp; dsimp only; simp (disch := omega) only [addB, upd_other, hpL_cons, hpL_nil, if_neg, updL, List.cons_append, List.nil_append]; first | exact hT.mem p hp | exact cL p hp)
          · rcases hmc with ⟨rfl, hm9⟩ | ⟨rfl, hm9⟩
            · unfold nmSt stB'
              repeat' (first | refine gwS ?_ | simp only [wN, wM, Nat.reduceAdd, Nat.reduceMul] | ((first | refine gwR [] ?_ | refine gwD [] ?_); intro Q hQ hP; simp [hC, hY, hA, hS, hne]; (first | refine hQ _ _ _ _ (by kernel_rfl) ?_ | refine hP _ _ (by kernel_rfl) fun _ => ?_); clear hQ hP Q) | refine gwB ?_ | refine gwT ?_ | refine gwK ?_ | refine gwE ?_ | refine gwG ?_ | refine gwL ?_ | simp only [blockG_exit] | (refine gwC ?_ ?_ <;> (intro hb; first | (cases hb; done) | skip)))
              refine ⟨rfl, ?_⟩
              refine weakLL _ 896 hC G0F hT.ok hT.fx hC0 (by omega) ?_ ?_ ?_
              · simp [idsV, idsA, idsF, ids0, dom]
              · simp [stB', ids_lit, idsF, ids0, dom, hA, hS, hne, Blk.fx_ids (fa_fx _ _ _)]
              · (intro p hp; have hpb := hT.ok.big p hp; dsimp only; simp (disch := omega) only [addB, upd_other, hpL_cons, hpL_nil, if_neg, updL, List.cons_append, List.nil_append]; first | exact hT.mem p hp | exact cL p hp)
            · have hm8 := Int.ofNat_lt.2 hm9
              unfold nmSt stB'
              repeat' (first | refine gwS ?_ | simp only [wN, wM, Nat.reduceAdd, Nat.reduceMul] | ((first | refine gwR [] ?_ | refine gwD [] ?_); intro Q hQ hP; simp [hC, hY, hA, hS, hne, hm8]; (first | refine hQ _ _ _ _ (by kernel_rfl) ?_ | refine hP _ _ (by kernel_rfl) fun _ => ?_); clear hQ hP Q) | refine gwB ?_ | refine gwT ?_ | refine gwK ?_ | refine gwE ?_ | refine gwG ?_ | refine gwL ?_ | simp only [blockG_exit] | (refine gwC ?_ ?_ <;> (intro hb; first | (cases hb; done) | skip)))
              refine ⟨rfl, ?_⟩
              refine weakLL _ 896 hC G0F hT.ok hT.fx hC0 (by omega) ?_ ?_ ?_
              · simp [idsV, idsA, idsF, ids0, dom]
              · simp [stB', ids_lit, idsF, ids0, dom, hA, hS, hne, Blk.fx_ids (fa_fx _ _ _)]
              · (intro p hp; have hpb := hT.ok.big p hp; dsimp only; simp (disch := omega) only [addB, upd_other, hpL_cons, hpL_nil, if_neg, updL, List.cons_append, List.nil_append]; first | exact hT.mem p hp | exact cL p hp)
        · intro s' hJ
          simp only [thenG_normal]
          refine GW_weak hJ ?_
          unfold nmE stB'
          simp only [List.cons_append, List.nil_append]
          refine GW_seq ?_
          obtain ⟨l, hl⟩ : ∃ l, prs st f n = l := ⟨_, rfl⟩
          have hSv := nown_sb (g := vlG gv f2 (m)) (F := vlG f f2 (m)) k2v (fun j hj => vlG_end hj k3v) (vl_i64 h.i6 h2.i6 hN2) hnn
          have pA := nPairs_at 100 904 (by decide) (by decide) (by decide) b off n cap f h hcap st hs
          have pB := nPairs_at 312 920 (by decide) (by decide) (by decide) _ 0 n ca (moF f w0 w1 w2) hSo k1a st hs
          have pC := nPairs_at 472 936 (by decide) (by decide) (by decide) _ 0 n cv (vlG f f2 (m)) hSv k1v st2 hs2
          rw [mo_prs c0 c1] at pB
          rw [vl_prs c0 c2 hN2] at pC
          have hl6 := prs_len st f n
          rw [hl] at pA pB pC hl6
          have hl9 : l.length ≤ 2932031007402 := Nat.le_trans hl6 (by decide)
          have hsame : sameB st st n n f f = true := sameB_iff.2 ⟨rfl, rfl, fun _ _ => rfl⟩
          by_cases hl0 : l = []
          · rw [hl0] at pA pB pC
            simp only [List.length_nil] at pA pB pC
            refine GW_any follows ?_
            simp only [Array.toList, List.append_eq, List.cons_append, List.nil_append, List.length_cons, List.length_nil, Nat.reduceAdd]
            refine GA_gen (mnF L b b2 ks st st2 off n cap off2 n2 cap2 ca Ma cb Mb cv Mv m ga gb gv f2 l) ?_ ?_
            · refine ⟨by simp, by simp, by simp, by simp, by simp, by simp, by simp, by simp, by simp, by simp, by simp, by simp, by simp, ?_, ?_⟩
              · intro k hk
                simp (disch := omega) only [upd_other, updL, hpL_cons, hpL_nil, if_neg, hT.low]
              · intro p hp
                have hb := hT.ok.big p hp
                simp (disch := omega) only [upd_other, updL, hpL_cons, hpL_nil, if_neg]
                exact hT.mem p hp
            intro ts0 hp0 hF
            refine GA_ind (fun listed ts hp => TJ mnN mnX mnD (mnV L b b2 ks st st2 off n cap off2 n2 cap2 ca Ma cb Mb cv Mv m ga gb gv f2 l ) (mnBk L b b2 ks st st2 off n cap off2 n2 cap2 ca Ma cb Mb cv Mv m ga gb gv f2 l ) ts0 hp0 listed ts hp) (fun listed ts hp szR rdR hI => ?_) (fun fuel listed ts hp i szR hi hdep h hk => ?_) _ _ _ _ (by simp) (by decide +kernel) ?_
            · have hall' := ready_nilB szR (by kernel_rfl) rdR
              have hall : ∀ i, i < 9 → listed[i]? = some true := fun i hi => hall' i (by simpa using hi)
              skip
              have k3 : ts 3 = .pointer (some ⟨200, 0, none⟩) := (hI.t0 3 (by decide)).trans hF.e3
              have k9 : ts 9 = .pointer (some ⟨440, 0, none⟩) := (hI.t0 9 (by decide)).trans hF.e9
              have k10 : ts 10 = .int .i64 0 := (hI.t0 10 (by decide)).trans hF.e10
              have k13 : ts 13 = .slice none 0 0 := hI.tm (6, 13) (by decide) (hall 6 (by omega))
              have k14 : ts 14 = .slice none 0 0 := hI.tm (7, 14) (by decide) (hall 7 (by omega))
              have k15 : ts 15 = .slice none 0 0 := hI.tm (8, 15) (by decide) (hall 8 (by omega))
              have c200 : hp 200 = some (⟨#[.int .i64 st, .slice (some ⟨100, off, none⟩) n cap], .ty 27⟩) := (hI.ext (by decide)).trans hF.b200
              have c408 : hp 408 = some (⟨fa Mb .i64 gb, .ty 42⟩) := (hI.ext (by decide)).trans hF.b408
              have c440 : hp 440 = some (⟨#[.int .i64 st, .slice (some ⟨408, 0, none⟩) n cb], .ty 27⟩) := (hI.ext (by decide)).trans hF.b440
              have cL : ∀ p ∈ L, hp p.1 = some p.2 := fun p hp => (hI.ext (mnX200 _ (hT.ok.big p hp).2)).trans (hF.bL p hp)
              have clow : ∀ k, k < 100 → hp k = G0 k := fun k hk => (hI.ext (mnX200 _ (by omega))).trans (hF.low k hk)
              simp only [thenG_normal]
              refine GW_weak (weakLL [(3, .pointer (some ⟨200, 0, none⟩)), (9, .pointer (some ⟨440, 0, none⟩)), (10, .int .i64 0), (13, .slice none 0 0), (14, .slice none 0 0), (15, .slice none 0 0)] 968 hC G0F (m := [(200, stB' st 100 off n cap), (408, ⟨fa Mb .i64 gb, .ty 42⟩), (440, stB' st 408 0 n cb)]) hT.ok hT.fx hC0 (by omega) ?_ ?_ ?_) ?_
              · simp [k3, k9, k10, k13, k14, k15, idsV, idsA, idsF, ids0, dom]
              · simp [c200, c408, c440, stB', ids_lit, idsF, ids0, dom, hA, hS, hne, Blk.fx_ids (fa_fx _ _ _)]
              · exact cL
              simp only [List.cons_append, List.nil_append, stB']
              repeat' (first | refine gwS ?_ | simp only [wN, wM, Nat.reduceAdd, Nat.reduceMul] | ((first | refine gwR [15] ?_ | refine gwD [15] ?_); intro Q hQ hP; simp [hC, hY, hsame, hA, hS, hne]; (repeat ((first | (refine heapK_mv (same_fun _ b 0 off n n cb cap f f hSb h st st) G0F (B := 200) (smL_ok hSb.fx h.fx) (fun k => if k = 100 then 408 else if k = 108 then 100 else k) (fun k hk => (if_neg (by omega)).trans (if_neg (by omega))) (by simp [ren, renA, renF, ren0]) (by simp) (by simp [smL, hr, fa_rn, hA]) (by simp [keys, smL]) (by simp [keys, smL]; rfl) ?_)); try simp [hC, hY, hsame, hA, hS, hne])); (first | refine hQ _ _ _ _ (by kernel_rfl) ?_ | refine hP _ _ (by kernel_rfl) fun _ => ?_); clear hQ hP Q) | refine gwB ?_ | refine gwT ?_ | refine gwK ?_ | refine gwE ?_ | refine gwG ?_ | refine gwL ?_ | simp only [blockG_exit] | (refine gwC ?_ ?_ <;> (intro hb; first | (cases hb; done) | skip)))
              refine ⟨.inr rfl, by simp [Tryd.results4], keep_of G0F (by (intro p hp; have hpb := hT.ok.big p hp; first | rfl | (simp (disch := omega) only [addB, upd_other, hpL_cons, hpL_nil, if_neg, updL, List.cons_append, List.nil_append] <;> done))) (by (intro k hk; first | exact hLow k hk | (simp (disch := omega) only [hLow, addB, List.mem_cons, List.not_mem_nil, or_false, upd_other, hpL_cons, hpL_nil, if_neg, updL, List.cons_append, List.nil_append] <;> done)))⟩
            · have hlt : i < 9 := by
                have := (Array.getElem?_eq_some_iff.1 hi).1
                rw [szR] at this
                simpa using this
              skip
              obtain rfl | rfl | rfl | rfl | rfl | rfl | rfl | rfl | rfl : i = 0 ∨ i = 1 ∨ i = 2 ∨ i = 3 ∨ i = 4 ∨ i = 5 ∨ i = 6 ∨ i = 7 ∨ i = 8 := by omega
              · -- 0
                have vx3 : ts 3 = .pointer (some ⟨200, 0, none⟩) := (h.t0 3 (by decide)).trans hF.e3
                have y200 : hp 200 = some (⟨#[.int .i64 st, .slice (some ⟨100, off, none⟩) n cap], .ty 27⟩) := (h.ext (by decide)).trans hF.b200
                refine GO_walk [] rfl (by kernel_rfl) (by first | assumption | simp) ?_; intro q hq; simp [hC, hY, vx3, y200]; refine hq _ _ _ _ ?_; clear hq q
                exact hk _ _ (h.tmp mnN1 mnN2 hi (by simp [mnD]) (i := 0) (t := 80) (by decide) rfl (by decide))
              · -- 1
                have hd0 := hdep _ rfl
                simp [Region.binds] at hd0
                have d0 : listed[0]? = some true := by simp [hd0]
                have vf0 : ts 80 = .agg #[.int .i64 st, .slice (some ⟨100, off, none⟩) n cap] := h.tm (0, 80) (by decide) d0
                have low : ∀ k, k < 100 → hp k = G0 k := fun k hk => (h.ext (mnX200 _ (by omega))).trans (hF.low k hk)
                have cL : ∀ p ∈ L, hp p.1 = some p.2 := fun p hp => (h.ext (mnX200 _ (hT.ok.big p hp).2)).trans (hF.bL p hp)
                refine GO_callG (f := .func 9) (cap := #[]) hC pA rfl hi (by simp [wantedG]) (by simp [Tryd.ntmps4]) rfl rfl (by simp [okT]) (by simp [gev]) (by simp) (by simp [okX, junk, vf0]) (by simp [gev, vf0]) (by simp [cL _ hT.ka]) (fun q hq => (low q hq).symm ▸ (by simp (disch := omega) only [hpL_cons, hpL_nil, if_neg])) ?_ ?_
                · intro v ns hV k hk
                  rw [prR_key hV k hk]
                  omega
                rintro v ns (⟨_, rfl, rfl⟩ | ⟨c', g', h9, _⟩)
                · exact hk _ _ (h.tmp mnN1 mnN2 hi (by simp [mnD, d0]) (i := 1) (t := 81) (by decide) rfl (by decide))
                · exact absurd h9 (by simp)
              · -- 2
                have vx7 : ts 7 = .pointer (some ⟨344, 0, none⟩) := (h.t0 7 (by decide)).trans hF.e7
                have y344 : hp 344 = some (⟨#[.int .i64 st, .slice (some ⟨312, 0, none⟩) n ca], .ty 27⟩) := (h.ext (by decide)).trans hF.b344
                refine GO_walk [] rfl (by kernel_rfl) (by first | assumption | simp) ?_; intro q hq; simp [hC, hY, vx7, y344]; refine hq _ _ _ _ ?_; clear hq q
                exact hk _ _ (h.tmp mnN1 mnN2 hi (by simp [mnD]) (i := 2) (t := 82) (by decide) rfl (by decide))
              · -- 3
                have hd0 := hdep _ rfl
                simp [Region.binds] at hd0
                have d2 : listed[2]? = some true := by simp [hd0]
                have vf2 : ts 82 = .agg #[.int .i64 st, .slice (some ⟨312, 0, none⟩) n ca] := h.tm (2, 82) (by decide) d2
                have y312 : hp 312 = some (⟨fa Ma .i64 ga, .ty 42⟩) := (h.ext (by decide)).trans hF.b312
                have low : ∀ k, k < 100 → hp k = G0 k := fun k hk => (h.ext (mnX200 _ (by omega))).trans (hF.low k hk)
                refine GO_callG (f := .func 9) (cap := #[]) hC pB rfl hi (by simp [wantedG]) (by simp [Tryd.ntmps4]) rfl rfl (by simp [okT]) (by simp [gev]) (by simp) (by simp [okX, junk, vf2, y312]) (by simp [gev, vf2, y312]) (by simp [y312]) (fun q hq => (low q hq).symm ▸ (by simp (disch := omega) only [hpL_cons, hpL_nil, if_neg])) ?_ ?_
                · intro v ns hV k hk
                  rw [prR_key hV k hk]
                  omega
                rintro v ns (⟨_, rfl, rfl⟩ | ⟨c', g', h9, _⟩)
                · exact hk _ _ (h.tmp mnN1 mnN2 hi (by simp [mnD, d2]) (i := 3) (t := 83) (by decide) rfl (by decide))
                · exact absurd h9 (by simp)
              · -- 4
                have vx11 : ts 11 = .pointer (some ⟨480, 0, none⟩) := (h.t0 11 (by decide)).trans hF.e11
                have y480 : hp 480 = some (⟨#[.int .i64 st2, .slice (some ⟨472, 0, none⟩) n cv], .ty 27⟩) := (h.ext (by decide)).trans hF.b480
                refine GO_walk [] rfl (by kernel_rfl) (by first | assumption | simp) ?_; intro q hq; simp [hC, hY, vx11, y480]; refine hq _ _ _ _ ?_; clear hq q
                exact hk _ _ (h.tmp mnN1 mnN2 hi (by simp [mnD]) (i := 4) (t := 84) (by decide) rfl (by decide))
              · -- 5
                have hd0 := hdep _ rfl
                simp [Region.binds] at hd0
                have d4 : listed[4]? = some true := by simp [hd0]
                have vf4 : ts 84 = .agg #[.int .i64 st2, .slice (some ⟨472, 0, none⟩) n cv] := h.tm (4, 84) (by decide) d4
                have y472 : hp 472 = some (⟨fa Mv .i64 (vlG gv f2 m), .ty 42⟩) := (h.ext (by decide)).trans hF.b472
                have low : ∀ k, k < 100 → hp k = G0 k := fun k hk => (h.ext (mnX200 _ (by omega))).trans (hF.low k hk)
                refine GO_callG (f := .func 9) (cap := #[]) hC pC rfl hi (by simp [wantedG]) (by simp [Tryd.ntmps4]) rfl rfl (by simp [okT]) (by simp [gev]) (by simp) (by simp [okX, junk, vf4, y472]) (by simp [gev, vf4, y472]) (by simp [y472]) (fun q hq => (low q hq).symm ▸ (by simp (disch := omega) only [hpL_cons, hpL_nil, if_neg])) ?_ ?_
                · intro v ns hV k hk
                  rw [prR_key hV k hk]
                  omega
                rintro v ns (⟨_, rfl, rfl⟩ | ⟨c', g', h9, _⟩)
                · exact hk _ _ (h.tmp mnN1 mnN2 hi (by simp [mnD, d4]) (i := 5) (t := 85) (by decide) rfl (by decide))
                · exact absurd h9 (by simp)
              · -- 6
                have hd0 := hdep _ rfl
                simp [Region.binds] at hd0
                have d1 : listed[1]? = some true := by simp [hd0]
                have vf1 : ts 81 = .slice none 0 0 := h.tm (1, 81) (by decide) d1
                refine GO_walk [] rfl (by kernel_rfl) (by first | assumption | simp) ?_; intro q hq; simp [hC, hY, vf1]; refine hq _ _ _ _ ?_; clear hq q
                exact hk _ _ (h.tmp mnN1 mnN2 hi (by simp [mnD, d1]) (i := 6) (t := 13) (by decide) rfl (by decide))
              · -- 7
                have hd0 := hdep _ rfl
                simp [Region.binds] at hd0
                have d3 : listed[3]? = some true := by simp [hd0]
                have vf3 : ts 83 = .slice none 0 0 := h.tm (3, 83) (by decide) d3
                refine GO_walk [] rfl (by kernel_rfl) (by first | assumption | simp) ?_; intro q hq; simp [hC, hY, vf3]; refine hq _ _ _ _ ?_; clear hq q
                exact hk _ _ (h.tmp mnN1 mnN2 hi (by simp [mnD, d3]) (i := 7) (t := 14) (by decide) rfl (by decide))
              · -- 8
                have hd0 := hdep _ rfl
                simp [Region.binds] at hd0
                have d5 : listed[5]? = some true := by simp [hd0]
                have vf5 : ts 85 = .slice none 0 0 := h.tm (5, 85) (by decide) d5
                refine GO_walk [] rfl (by kernel_rfl) (by first | assumption | simp) ?_; intro q hq; simp [hC, hY, vf5]; refine hq _ _ _ _ ?_; clear hq q
                exact hk _ _ (h.tmp mnN1 mnN2 hi (by simp [mnD, d5]) (i := 8) (t := 15) (by decide) rfl (by decide))
            · have hno : ∀ j : Nat, (Array.replicate 9 false)[j]? ≠ some true := fun j => by
                rw [Array.getElem?_replicate]
                split <;> simp
              exact TJ.start hno
          · have hpos : 0 < l.length := List.length_pos_iff.2 hl0
            refine GW_any follows ?_
            simp only [Array.toList, List.append_eq, List.cons_append, List.nil_append, List.length_cons, List.length_nil, Nat.reduceAdd]
            refine GA_gen (mpF L b b2 ks st st2 off n cap off2 n2 cap2 ca Ma cb Mb cv Mv m ga gb gv f2 l) ?_ ?_
            · refine ⟨by simp, by simp, by simp, by simp, by simp, by simp, by simp, by simp, by simp, by simp, by simp, by simp, by simp, ?_, ?_⟩
              · intro k hk
                simp (disch := omega) only [upd_other, updL, hpL_cons, hpL_nil, if_neg, hT.low]
              · intro p hp
                have hb := hT.ok.big p hp
                simp (disch := omega) only [upd_other, updL, hpL_cons, hpL_nil, if_neg]
                exact hT.mem p hp
            intro ts0 hp0 hF
            refine GA_ind (fun listed ts hp => ∃ c1 g1 c2 g2 c3 g3, (l.length ≤ c1 ∧ (∀ j, j < 3 * l.length → g1 j = pF l j) ∧ l.length ≤ c2 ∧ (∀ j, j < 3 * l.length → g2 j = pF l j) ∧ l.length ≤ c3 ∧ (∀ j, j < 3 * l.length → g3 j = pF l j)) ∧ TJ mpN mpX mpD (mpV L b b2 ks st st2 off n cap off2 n2 cap2 ca Ma cb Mb cv Mv m ga gb gv f2 l c1 g1 c2 g2 c3 g3) (mpBk L b b2 ks st st2 off n cap off2 n2 cap2 ca Ma cb Mb cv Mv m ga gb gv f2 l c1 g1 c2 g2 c3 g3) ts0 hp0 listed ts hp) (fun listed ts hp szR rdR hI => ?_) (fun fuel listed ts hp i szR hi hdep h hk => ?_) _ _ _ _ (by simp) (by decide +kernel) ?_
            · have hall' := ready_nilB szR (by kernel_rfl) rdR
              have hall : ∀ i, i < 9 → listed[i]? = some true := fun i hi => hall' i (by simpa using hi)
              obtain ⟨c1, g1, c2, g2, c3, g3, hinv, hI⟩ := hI
              have k3 : ts 3 = .pointer (some ⟨200, 0, none⟩) := (hI.t0 3 (by decide)).trans hF.e3
              have k9 : ts 9 = .pointer (some ⟨440, 0, none⟩) := (hI.t0 9 (by decide)).trans hF.e9
              have k10 : ts 10 = .int .i64 0 := (hI.t0 10 (by decide)).trans hF.e10
              have k13 : ts 13 = .slice (some ⟨904, 0, none⟩) l.length c1 := hI.tm (6, 13) (by decide) (hall 6 (by omega))
              have k14 : ts 14 = .slice (some ⟨920, 0, none⟩) l.length c2 := hI.tm (7, 14) (by decide) (hall 7 (by omega))
              have k15 : ts 15 = .slice (some ⟨936, 0, none⟩) l.length c3 := hI.tm (8, 15) (by decide) (hall 8 (by omega))
              have c200 : hp 200 = some (⟨#[.int .i64 st, .slice (some ⟨100, off, none⟩) n cap], .ty 27⟩) := (hI.ext (by decide)).trans hF.b200
              have c408 : hp 408 = some (⟨fa Mb .i64 gb, .ty 42⟩) := (hI.ext (by decide)).trans hF.b408
              have c440 : hp 440 = some (⟨#[.int .i64 st, .slice (some ⟨408, 0, none⟩) n cb], .ty 27⟩) := (hI.ext (by decide)).trans hF.b440
              have c904 : hp 904 = some (⟨fa (3 * c1) .i64 g1, .ty 36⟩) := hI.bx (1, 904) (by decide) (hall 1 (by omega)) (by simp [mpX])
              have c920 : hp 920 = some (⟨fa (3 * c2) .i64 g2, .ty 36⟩) := hI.bx (3, 920) (by decide) (hall 3 (by omega)) (by simp [mpX])
              have c936 : hp 936 = some (⟨fa (3 * c3) .i64 g3, .ty 36⟩) := hI.bx (5, 936) (by decide) (hall 5 (by omega)) (by simp [mpX])
              have cL : ∀ p ∈ L, hp p.1 = some p.2 := fun p hp => (hI.ext (mpX200 _ (hT.ok.big p hp).2)).trans (hF.bL p hp)
              have clow : ∀ k, k < 100 → hp k = G0 k := fun k hk => (hI.ext (mpX200 _ (by omega))).trans (hF.low k hk)
              simp only [thenG_normal]
              refine GW_weak (weakLL [(3, .pointer (some ⟨200, 0, none⟩)), (9, .pointer (some ⟨440, 0, none⟩)), (10, .int .i64 0), (13, .slice (some ⟨904, 0, none⟩) l.length c1), (14, .slice (some ⟨920, 0, none⟩) l.length c2), (15, .slice (some ⟨936, 0, none⟩) l.length c3)] 968 hC G0F (m := [(200, stB' st 100 off n cap), (408, ⟨fa Mb .i64 gb, .ty 42⟩), (440, stB' st 408 0 n cb), (904, ⟨fa (3 * c1) .i64 g1, .ty 36⟩), (920, ⟨fa (3 * c2) .i64 g2, .ty 36⟩), (936, ⟨fa (3 * c3) .i64 g3, .ty 36⟩)]) hT.ok hT.fx hC0 (by omega) ?_ ?_ ?_) ?_
              · simp [k3, k9, k10, k13, k14, k15, idsV, idsA, idsF, ids0, dom]
              · simp [c200, c408, c440, c904, c920, c936, stB', ids_lit, idsF, ids0, dom, hA, hS, hne, Blk.fx_ids (fa_fx _ _ _)]
              · exact cL
              simp only [List.cons_append, List.nil_append, stB']
              obtain ⟨q1, q2, q3, q4, q5, q6⟩ := hinv
              repeat' (first | refine gwS ?_ | simp only [wN, wM, Nat.reduceAdd, Nat.reduceMul] | ((first | refine gwR [15, 18] ?_ | refine gwD [15, 18] ?_); intro Q hQ hP; simp [hC, hY, hsame, hA, hS, hne]; (repeat ((first | (refine heapK_mv (same_fun _ b 0 off n n cb cap f f hSb h st st) G0F (B := 200) (smL_ok hSb.fx h.fx) (fun k => if k = 100 then 408 else if k = 108 then 100 else k) (fun k hk => (if_neg (by omega)).trans (if_neg (by omega))) (by simp [ren, renA, renF, ren0]) (by simp) (by simp [smL, hr, fa_rn, hA]) (by simp [keys, smL]) (by simp [keys, smL]; rfl) ?_) | (refine heapK_mv (psm_fun l.length c1 c2 g1 g2 hl9 q1 q3 (fun j hj => (q2 j hj).trans (q4 j hj).symm)) G0F (B := 200) (psL_ok _ _ _ _) (fun k => if k = 100 then 904 else if k = 108 then 920 else k) (fun k hk => (if_neg (by omega)).trans (if_neg (by omega))) ?_ (by simp) (by simp [psL, fa_rn]) (by simp [keys, psL]) (by simp [keys, psL]; rfl) ?_; focus (simp [ren, renA, renF, ren0]; done)) | (refine heapK_mv (psm_fun l.length c1 c3 g1 g3 hl9 q1 q5 (fun j hj => (q2 j hj).trans (q6 j hj).symm)) G0F (B := 200) (psL_ok _ _ _ _) (fun k => if k = 100 then 904 else if k = 108 then 936 else k) (fun k hk => (if_neg (by omega)).trans (if_neg (by omega))) ?_ (by simp) (by simp [psL, fa_rn]) (by simp [keys, psL]) (by simp [keys, psL]; rfl) ?_; focus (simp [ren, renA, renF, ren0]; done))); try simp [hC, hY, hsame, hA, hS, hne])); (first | refine hQ _ _ _ _ (by kernel_rfl) ?_ | refine hP _ _ (by kernel_rfl) fun _ => ?_); clear hQ hP Q) | refine gwB ?_ | refine gwT ?_ | refine gwK ?_ | refine gwE ?_ | refine gwG ?_ | refine gwL ?_ | simp only [blockG_exit] | (refine gwC ?_ ?_ <;> (intro hb; first | (cases hb; done) | skip)))
              refine ⟨.inr rfl, by simp [Tryd.results4], keep_of G0F (by (intro p hp; have hpb := hT.ok.big p hp; first | rfl | (simp (disch := omega) only [addB, upd_other, hpL_cons, hpL_nil, if_neg, updL, List.cons_append, List.nil_append] <;> done))) (by (intro k hk; first | exact hLow k hk | (simp (disch := omega) only [hLow, addB, List.mem_cons, List.not_mem_nil, or_false, upd_other, hpL_cons, hpL_nil, if_neg, updL, List.cons_append, List.nil_append] <;> done)))⟩
            · have hlt : i < 9 := by
                have := (Array.getElem?_eq_some_iff.1 hi).1
                rw [szR] at this
                simpa using this
              obtain ⟨c1, g1, c2, g2, c3, g3, hinv, h⟩ := h
              obtain rfl | rfl | rfl | rfl | rfl | rfl | rfl | rfl | rfl : i = 0 ∨ i = 1 ∨ i = 2 ∨ i = 3 ∨ i = 4 ∨ i = 5 ∨ i = 6 ∨ i = 7 ∨ i = 8 := by omega
              · -- 0
                have vx3 : ts 3 = .pointer (some ⟨200, 0, none⟩) := (h.t0 3 (by decide)).trans hF.e3
                have y200 : hp 200 = some (⟨#[.int .i64 st, .slice (some ⟨100, off, none⟩) n cap], .ty 27⟩) := (h.ext (by decide)).trans hF.b200
                refine GO_walk [] rfl (by kernel_rfl) (by first | assumption | simp) ?_; intro q hq; simp [hC, hY, vx3, y200]; refine hq _ _ _ _ ?_; clear hq q
                exact hk _ _ ⟨c1, g1, c2, g2, c3, g3, hinv, (h.tmp mpN1 mpN2 hi (by simp [mpD]) (i := 0) (t := 80) (by decide) rfl (by decide))⟩
              · -- 1
                have hd0 := hdep _ rfl
                simp [Region.binds] at hd0
                have d0 : listed[0]? = some true := by simp [hd0]
                have vf0 : ts 80 = .agg #[.int .i64 st, .slice (some ⟨100, off, none⟩) n cap] := h.tm (0, 80) (by decide) d0
                have low : ∀ k, k < 100 → hp k = G0 k := fun k hk => (h.ext (mpX200 _ (by omega))).trans (hF.low k hk)
                have cL : ∀ p ∈ L, hp p.1 = some p.2 := fun p hp => (h.ext (mpX200 _ (hT.ok.big p hp).2)).trans (hF.bL p hp)
                refine GO_callG (f := .func 9) (cap := #[]) hC pA rfl hi (by simp [wantedG]) (by simp [Tryd.ntmps4]) rfl rfl (by simp [okT]) (by simp [gev]) (by simp) (by simp [okX, junk, vf0]) (by simp [gev, vf0]) (by simp [cL _ hT.ka]) (fun q hq => (low q hq).symm ▸ (by simp (disch := omega) only [hpL_cons, hpL_nil, if_neg])) ?_ ?_
                · intro v ns hV k hk
                  rw [prR_key hV k hk]
                  omega
                rintro v ns (⟨h9, _⟩ | ⟨c', g', _, u1, u2, rfl, rfl⟩)
                · exact absurd h9 (Nat.ne_of_gt hpos)
                have h := h.chg (V' := mpV L b b2 ks st st2 off n cap off2 n2 cap2 ca Ma cb Mb cv Mv m ga gb gv f2 l c' g' c2 g2 c3 g3) (Bk' := mpBk L b b2 ks st st2 off n cap off2 n2 cap2 ca Ma cb Mb cv Mv m ga gb gv f2 l c' g' c2 g2 c3 g3) hi (fun j hj hD => by unfold mpV; split <;> first | rfl | exact absurd rfl hj | exact (hD (by decide)).elim) (fun j hj hD => by unfold mpBk; split <;> first | rfl | exact absurd rfl hj | exact (hD (by decide)).elim)
                obtain ⟨q11, q12, q21, q22, q31, q32⟩ := hinv
                exact hk _ _ ⟨c', g', c2, g2, c3, g3, ⟨u1, u2, q21, q22, q31, q32⟩, h.new mpN1 mpN2 mpX1 hi (by simp [mpD]) (i := 1) (t := 81) (k := 904) (by decide) rfl (by decide) rfl (by decide)⟩
              · -- 2
                have vx7 : ts 7 = .pointer (some ⟨344, 0, none⟩) := (h.t0 7 (by decide)).trans hF.e7
                have y344 : hp 344 = some (⟨#[.int .i64 st, .slice (some ⟨312, 0, none⟩) n ca], .ty 27⟩) := (h.ext (by decide)).trans hF.b344
                refine GO_walk [] rfl (by kernel_rfl) (by first | assumption | simp) ?_; intro q hq; simp [hC, hY, vx7, y344]; refine hq _ _ _ _ ?_; clear hq q
                exact hk _ _ ⟨c1, g1, c2, g2, c3, g3, hinv, (h.tmp mpN1 mpN2 hi (by simp [mpD]) (i := 2) (t := 82) (by decide) rfl (by decide))⟩
              · -- 3
                have hd0 := hdep _ rfl
                simp [Region.binds] at hd0
                have d2 : listed[2]? = some true := by simp [hd0]
                have vf2 : ts 82 = .agg #[.int .i64 st, .slice (some ⟨312, 0, none⟩) n ca] := h.tm (2, 82) (by decide) d2
                have y312 : hp 312 = some (⟨fa Ma .i64 ga, .ty 42⟩) := (h.ext (by decide)).trans hF.b312
                have low : ∀ k, k < 100 → hp k = G0 k := fun k hk => (h.ext (mpX200 _ (by omega))).trans (hF.low k hk)
                refine GO_callG (f := .func 9) (cap := #[]) hC pB rfl hi (by simp [wantedG]) (by simp [Tryd.ntmps4]) rfl rfl (by simp [okT]) (by simp [gev]) (by simp) (by simp [okX, junk, vf2, y312]) (by simp [gev, vf2, y312]) (by simp [y312]) (fun q hq => (low q hq).symm ▸ (by simp (disch := omega) only [hpL_cons, hpL_nil, if_neg])) ?_ ?_
                · intro v ns hV k hk
                  rw [prR_key hV k hk]
                  omega
                rintro v ns (⟨h9, _⟩ | ⟨c', g', _, u1, u2, rfl, rfl⟩)
                · exact absurd h9 (Nat.ne_of_gt hpos)
                have h := h.chg (V' := mpV L b b2 ks st st2 off n cap off2 n2 cap2 ca Ma cb Mb cv Mv m ga gb gv f2 l c1 g1 c' g' c3 g3) (Bk' := mpBk L b b2 ks st st2 off n cap off2 n2 cap2 ca Ma cb Mb cv Mv m ga gb gv f2 l c1 g1 c' g' c3 g3) hi (fun j hj hD => by unfold mpV; split <;> first | rfl | exact absurd rfl hj | exact (hD (by decide)).elim) (fun j hj hD => by unfold mpBk; split <;> first | rfl | exact absurd rfl hj | exact (hD (by decide)).elim)
                obtain ⟨q11, q12, q21, q22, q31, q32⟩ := hinv
                exact hk _ _ ⟨c1, g1, c', g', c3, g3, ⟨q11, q12, u1, u2, q31, q32⟩, h.new mpN1 mpN2 mpX1 hi (by simp [mpD]) (i := 3) (t := 83) (k := 920) (by decide) rfl (by decide) rfl (by decide)⟩
              · -- 4
                have vx11 : ts 11 = .pointer (some ⟨480, 0, none⟩) := (h.t0 11 (by decide)).trans hF.e11
                have y480 : hp 480 = some (⟨#[.int .i64 st2, .slice (some ⟨472, 0, none⟩) n cv], .ty 27⟩) := (h.ext (by decide)).trans hF.b480
                refine GO_walk [] rfl (by kernel_rfl) (by first | assumption | simp) ?_; intro q hq; simp [hC, hY, vx11, y480]; refine hq _ _ _ _ ?_; clear hq q
                exact hk _ _ ⟨c1, g1, c2, g2, c3, g3, hinv, (h.tmp mpN1 mpN2 hi (by simp [mpD]) (i := 4) (t := 84) (by decide) rfl (by decide))⟩
              · -- 5
                have hd0 := hdep _ rfl
                simp [Region.binds] at hd0
                have d4 : listed[4]? = some true := by simp [hd0]
                have vf4 : ts 84 = .agg #[.int .i64 st2, .slice (some ⟨472, 0, none⟩) n cv] := h.tm (4, 84) (by decide) d4
                have y472 : hp 472 = some (⟨fa Mv .i64 (vlG gv f2 m), .ty 42⟩) := (h.ext (by decide)).trans hF.b472
                have low : ∀ k, k < 100 → hp k = G0 k := fun k hk => (h.ext (mpX200 _ (by omega))).trans (hF.low k hk)
                refine GO_callG (f := .func 9) (cap := #[]) hC pC rfl hi (by simp [wantedG]) (by simp [Tryd.ntmps4]) rfl rfl (by simp [okT]) (by simp [gev]) (by simp) (by simp [okX, junk, vf4, y472]) (by simp [gev, vf4, y472]) (by simp [y472]) (fun q hq => (low q hq).symm ▸ (by simp (disch := omega) only [hpL_cons, hpL_nil, if_neg])) ?_ ?_
                · intro v ns hV k hk
                  rw [prR_key hV k hk]
                  omega
                rintro v ns (⟨h9, _⟩ | ⟨c', g', _, u1, u2, rfl, rfl⟩)
                · exact absurd h9 (Nat.ne_of_gt hpos)
                have h := h.chg (V' := mpV L b b2 ks st st2 off n cap off2 n2 cap2 ca Ma cb Mb cv Mv m ga gb gv f2 l c1 g1 c2 g2 c' g') (Bk' := mpBk L b b2 ks st st2 off n cap off2 n2 cap2 ca Ma cb Mb cv Mv m ga gb gv f2 l c1 g1 c2 g2 c' g') hi (fun j hj hD => by unfold mpV; split <;> first | rfl | exact absurd rfl hj | exact (hD (by decide)).elim) (fun j hj hD => by unfold mpBk; split <;> first | rfl | exact absurd rfl hj | exact (hD (by decide)).elim)
                obtain ⟨q11, q12, q21, q22, q31, q32⟩ := hinv
                exact hk _ _ ⟨c1, g1, c2, g2, c', g', ⟨q11, q12, q21, q22, u1, u2⟩, h.new mpN1 mpN2 mpX1 hi (by simp [mpD]) (i := 5) (t := 85) (k := 936) (by decide) rfl (by decide) rfl (by decide)⟩
              · -- 6
                have hd0 := hdep _ rfl
                simp [Region.binds] at hd0
                have d1 : listed[1]? = some true := by simp [hd0]
                have vf1 : ts 81 = .slice (some ⟨904, 0, none⟩) l.length c1 := h.tm (1, 81) (by decide) d1
                refine GO_walk [] rfl (by kernel_rfl) (by first | assumption | simp) ?_; intro q hq; simp [hC, hY, vf1]; refine hq _ _ _ _ ?_; clear hq q
                exact hk _ _ ⟨c1, g1, c2, g2, c3, g3, hinv, (h.tmp mpN1 mpN2 hi (by simp [mpD, d1]) (i := 6) (t := 13) (by decide) rfl (by decide))⟩
              · -- 7
                have hd0 := hdep _ rfl
                simp [Region.binds] at hd0
                have d3 : listed[3]? = some true := by simp [hd0]
                have vf3 : ts 83 = .slice (some ⟨920, 0, none⟩) l.length c2 := h.tm (3, 83) (by decide) d3
                refine GO_walk [] rfl (by kernel_rfl) (by first | assumption | simp) ?_; intro q hq; simp [hC, hY, vf3]; refine hq _ _ _ _ ?_; clear hq q
                exact hk _ _ ⟨c1, g1, c2, g2, c3, g3, hinv, (h.tmp mpN1 mpN2 hi (by simp [mpD, d3]) (i := 7) (t := 14) (by decide) rfl (by decide))⟩
              · -- 8
                have hd0 := hdep _ rfl
                simp [Region.binds] at hd0
                have d5 : listed[5]? = some true := by simp [hd0]
                have vf5 : ts 85 = .slice (some ⟨936, 0, none⟩) l.length c3 := h.tm (5, 85) (by decide) d5
                refine GO_walk [] rfl (by kernel_rfl) (by first | assumption | simp) ?_; intro q hq; simp [hC, hY, vf5]; refine hq _ _ _ _ ?_; clear hq q
                exact hk _ _ ⟨c1, g1, c2, g2, c3, g3, hinv, (h.tmp mpN1 mpN2 hi (by simp [mpD, d5]) (i := 8) (t := 15) (by decide) rfl (by decide))⟩
            · have hno : ∀ j : Nat, (Array.replicate 9 false)[j]? ≠ some true := fun j => by
                rw [Array.getElem?_replicate]
                split <;> simp
              exact ⟨l.length, pF l, l.length, pF l, l.length, pF l, ⟨Nat.le_refl _, fun _ _ => rfl, Nat.le_refl _, fun _ _ => rfl, Nat.le_refl _, fun _ _ => rfl⟩, TJ.start hno⟩
      · have hlt : i < 10 := by
          have := (Array.getElem?_eq_some_iff.1 hi).1
          rw [szR] at this
          simpa using this
        obtain ⟨cb, Mb, gb, hinv, h⟩ := h
        obtain rfl | rfl | rfl | rfl | rfl | rfl | rfl | rfl | rfl | rfl : i = 0 ∨ i = 1 ∨ i = 2 ∨ i = 3 ∨ i = 4 ∨ i = 5 ∨ i = 6 ∨ i = 7 ∨ i = 8 ∨ i = 9 := by omega
        · -- 0
          have vx7 : ts 7 = .pointer (some ⟨344, 0, none⟩) := (h.t0 7 (by decide)).trans hF.e7
          have y344 : hp 344 = some (⟨#[.int .i64 st, .slice (some ⟨312, 0, none⟩) n ca], .ty 27⟩) := (h.ext (by decide)).trans hF.b344
          refine GO_walk [] rfl (by kernel_rfl) (by first | assumption | simp) ?_; intro q hq; simp [hC, hY, vx7, y344, bq0, bq1, bq2]; refine hq _ _ _ _ ?_; clear hq q
          exact hk _ _ ⟨cb, Mb, gb, hinv, (h.tmp m6N1 m6N2 hi (by simp [m6D]) (i := 0) (t := 44) (by decide) rfl (by decide))⟩
        · -- 1
          have vx5 : ts 5 = .pointer (some ⟨216, 0, none⟩) := (h.t0 5 (by decide)).trans hF.e5
          have y216 : hp 216 = some (⟨#[.int .i64 w0, .int .i64 w1, .int .i64 w2], .ty 40⟩) := (h.ext (by decide)).trans hF.b216
          refine GO_walk [] rfl (by kernel_rfl) (by first | assumption | simp) ?_; intro q hq; simp [hC, hY, vx5, y216, bq0, bq1, bq2]; refine hq _ _ _ _ ?_; clear hq q
          exact hk _ _ ⟨cb, Mb, gb, hinv, (h.tmp m6N1 m6N2 hi (by simp [m6D]) (i := 1) (t := 45) (by decide) rfl (by decide))⟩
        · -- 2
          have hd0 := hdep _ rfl
          simp [Region.binds] at hd0
          have d1 : listed[1]? = some true := by simp [hd0]
          have vf1 : ts 45 = .agg #[.int .i64 w0, .int .i64 w1, .int .i64 w2] := h.tm (1, 45) (by decide) d1
          refine GO_walk [] rfl (by kernel_rfl) (by first | assumption | simp) ?_; intro q hq; simp [hC, hY, vf1, bq0, bq1, bq2]; refine hq _ _ _ _ ?_; clear hq q
          exact hk _ _ ⟨cb, Mb, gb, hinv, (h.tmp m6N1 m6N2 hi (by simp [m6D, d1]) (i := 2) (t := 46) (by decide) rfl (by decide))⟩
        · -- 3
          have hd0 := hdep _ rfl
          simp [Region.binds] at hd0
          have d0 : listed[0]? = some true := by simp [hd0]
          have d2 : listed[2]? = some true := by simp [hd0]
          have vf0 : ts 44 = .agg #[.int .i64 st, .slice (some ⟨312, 0, none⟩) n ca] := h.tm (0, 44) (by decide) d0
          have vf2 : ts 46 = .agg #[.int .i64 (-w0), .int .i64 (-w1), .int .i64 (-w2)] := h.tm (2, 46) (by decide) d2
          have y312 : hp 312 = some (⟨fa Ma .i64 ga, .ty 42⟩) := (h.ext (by decide)).trans hF.b312
          have low : ∀ k, k < 100 → hp k = G0 k := fun k hk => (h.ext (m6X200 _ (by omega))).trans (hF.low k hk)
          refine GO_callG (f := .func 14) (cap := #[]) hC dB rfl hi (by simp [wantedG]) (by simp [Tryd.ntmps4]) rfl rfl (by simp [okT]) (by simp [gev]) (by simp) (by simp [okX, junk, vf0, vf2, y312, bq0, bq1, bq2]) (by simp [gev, vf0, vf2, y312, bq0, bq1, bq2]) (by simp [y312]) (fun q hq => (low q hq).symm ▸ (by simp (disch := omega) only [hpL_cons, hpL_nil, if_neg])) ?_ ?_
          · intro v ns hV k hk
            rw [driftR_key hV k hk]
            omega
          rintro v ns ⟨w, ⟨cb', Mb', gb', k1b, k2b, k3b, rfl, rfl⟩, rfl⟩
          have h := h.chg (V' := m6V L b b2 ks st st2 w0 w1 w2 off n cap off2 n2 cap2 ca Ma ga f cb' Mb' gb') (Bk' := m6Bk L b b2 ks st st2 w0 w1 w2 off n cap off2 n2 cap2 ca Ma ga f cb' Mb' gb') hi (fun j hj hD => by unfold m6V; split <;> first | rfl | exact absurd rfl hj | exact (hD (by decide)).elim) (fun j hj hD => by unfold m6Bk; split <;> first | rfl | exact absurd rfl hj | exact (hD (by decide)).elim)
          exact hk _ _ ⟨cb', Mb', gb', ⟨k1b, k2b, k3b⟩, h.new m6N1 m6N2 m6X1 hi (by simp [m6D]) (i := 3) (t := 47) (k := 408) (by decide) rfl (by decide) rfl (by decide)⟩
        · -- 4
          have hd0 := hdep _ rfl
          simp [Region.binds] at hd0
          have d3 : listed[3]? = some true := by simp [hd0]
          have vf3 : ts 47 = .tuple #[.agg #[.int .i64 st, .slice (some ⟨408, 0, none⟩) n cb], .int .i64 0] := h.tm (3, 47) (by decide) d3
          refine GO_walk [] rfl (by kernel_rfl) (by first | assumption | simp) ?_; intro q hq; simp [hC, hY, vf3, bq0, bq1, bq2]; refine hq _ _ _ _ ?_; clear hq q
          exact hk _ _ ⟨cb, Mb, gb, hinv, (h.tmp m6N1 m6N2 hi (by simp [m6D, d3]) (i := 4) (t := 43) (by decide) rfl (by decide))⟩
        · -- 5
          have hd0 := hdep _ rfl
          simp [Region.binds] at hd0
          have d4 : listed[4]? = some true := by simp [hd0]
          have vf4 : ts 43 = .tuple #[.agg #[.int .i64 st, .slice (some ⟨408, 0, none⟩) n cb], .int .i64 0] := h.tm (4, 43) (by decide) d4
          have d3 : listed[3]? = some true := h.cl (4, 3) (by decide) d4
          refine GO_walk [] rfl (by kernel_rfl) (by first | assumption | simp) ?_; intro q hq; simp [hC, hY, vf4, bq0, bq1, bq2]; refine hq _ _ _ _ ?_; clear hq q
          exact hk _ _ ⟨cb, Mb, gb, hinv, (h.tmp m6N1 m6N2 hi (by simp [m6D, d3, d4]) (i := 5) (t := 48) (by decide) rfl (by decide))⟩
        · -- 6
          have hd0 := hdep _ rfl
          simp [Region.binds] at hd0
          have d4 : listed[4]? = some true := by simp [hd0]
          have vf4 : ts 43 = .tuple #[.agg #[.int .i64 st, .slice (some ⟨408, 0, none⟩) n cb], .int .i64 0] := h.tm (4, 43) (by decide) d4
          refine GO_walk [] rfl (by kernel_rfl) (by first | assumption | simp) ?_; intro q hq; simp [hC, hY, vf4, bq0, bq1, bq2]; refine hq _ _ _ _ ?_; clear hq q
          exact hk _ _ ⟨cb, Mb, gb, hinv, (h.tmp m6N1 m6N2 hi (by simp [m6D, d4]) (i := 6) (t := 49) (by decide) rfl (by decide))⟩
        · -- 7
          refine GO_walk [] rfl (by kernel_rfl) (by first | assumption | simp) ?_; intro q hq; simp [hC, hY, bq0, bq1, bq2]; refine hq _ _ _ _ ?_; clear hq q
          exact hk _ _ ⟨cb, Mb, gb, hinv, (h.new m6N1 m6N2 m6X1 hi (by simp [m6D]) (i := 7) (t := 9) (k := 440) (by decide) rfl (by decide) rfl (by decide))⟩
        · -- 8
          have hd0 := hdep _ rfl
          simp [Region.binds] at hd0
          have d3 : listed[3]? = some true := by simp [hd0]
          have d5 : listed[5]? = some true := by simp [hd0]
          have d7 : listed[7]? = some true := by simp [hd0]
          have vf3 : ts 47 = .tuple #[.agg #[.int .i64 st, .slice (some ⟨408, 0, none⟩) n cb], .int .i64 0] := h.tm (3, 47) (by decide) d3
          have vf5 : ts 48 = .agg #[.int .i64 st, .slice (some ⟨408, 0, none⟩) n cb] := h.tm (5, 48) (by decide) d5
          have vf7 : ts 9 = .pointer (some ⟨440, 0, none⟩) := h.tm (7, 9) (by decide) d7
          have y440 : hp 440 = some (⟨#[.int .i64 0, .slice none 0 0], .ty 27⟩) := h.bxi hi (w := 7) (by decide) d7 (by decide)
          refine GO_walk [] rfl (by kernel_rfl) (by first | assumption | simp) ?_; intro q hq; simp [hC, hY, vf3, vf5, vf7, y440, bq0, bq1, bq2]; refine hq _ _ _ _ ?_; clear hq q
          exact hk _ _ ⟨cb, Mb, gb, hinv, (h.st m6X1 hi (by simp [m6D, d3, d5, d7]) (i := 8) (k := 440) (by decide) (by decide) rfl (by decide))⟩
        · -- 9
          have hd0 := hdep _ rfl
          simp [Region.binds] at hd0
          have d6 : listed[6]? = some true := by simp [hd0]
          have vf6 : ts 49 = .int .i64 0 := h.tm (6, 49) (by decide) d6
          refine GO_walk [] rfl (by kernel_rfl) (by first | assumption | simp) ?_; intro q hq; simp [hC, hY, vf6, bq0, bq1, bq2]; refine hq _ _ _ _ ?_; clear hq q
          exact hk _ _ ⟨cb, Mb, gb, hinv, (h.tmp m6N1 m6N2 hi (by simp [m6D, d6]) (i := 9) (t := 10) (by decide) rfl (by decide))⟩
      · have hno : ∀ j : Nat, (Array.replicate 10 false)[j]? ≠ some true := fun j => by
          rw [Array.getElem?_replicate]
          split <;> simp
        exact ⟨n, 6 * n, f, ⟨Nat.le_refl _, Nat.le_refl _, fun _ _ => rfl⟩, TJ.start hno⟩
theorem rig10_nilF (st : Int) : Fun Tryd.prog G0 7 #[.agg #[.int .i64 st, .slice none 0 0]] (hpL G0 []) (keys []) (.ret (.bool false) []) := by
  refine fun_ofL (B := 200) G0F Tryd.func7 rfl Tryd.call7 nilL_ok ?_ (by simp) (by simp) (by simp) (by simp [Tryd.ntmps7]) (by omega) ?_
  · simp [idsV, idsA, idsF, ids0, keys]
  intro C hC hC0 hY
  by_cases h1 : -1073741824 ≤ st
  · by_cases h2 : st ≤ 1073741824
    · have a : ¬ (1073741824 < st) := by omega
      repeat' (first | refine gwS ?_ | simp only [wN, wM, Nat.reduceAdd, Nat.reduceMul] | ((first | refine gwR [] ?_ | refine gwD [] ?_); intro Q hQ hP; simp [hC, hY, h1, h2, a]; (first | refine hQ _ _ _ _ (by kernel_rfl) ?_ | refine hP _ _ (by kernel_rfl) fun _ => ?_); clear hQ hP Q) | refine gwB ?_ | refine gwT ?_ | refine gwK ?_ | refine gwE ?_ | refine gwG ?_ | refine gwL ?_ | simp only [blockG_exit] | (refine gwC ?_ ?_ <;> (intro hb; first | (cases hb; done) | skip)))
      refine ⟨.inr rfl, by simp [Tryd.results7], keep_of G0F (by simp) (by (intro k hk; first | rfl | (simp (disch := omega) only [addB, List.mem_cons, List.not_mem_nil, or_false, upd_other, hpL_cons, hpL_nil, if_neg, updL] <;> done)))⟩
    · have a : ¬ (st ≤ 1073741824) := by omega
      repeat' (first | refine gwS ?_ | simp only [wN, wM, Nat.reduceAdd, Nat.reduceMul] | ((first | refine gwR [] ?_ | refine gwD [] ?_); intro Q hQ hP; simp [hC, hY, h1, h2, a]; (first | refine hQ _ _ _ _ (by kernel_rfl) ?_ | refine hP _ _ (by kernel_rfl) fun _ => ?_); clear hQ hP Q) | refine gwB ?_ | refine gwT ?_ | refine gwK ?_ | refine gwE ?_ | refine gwG ?_ | refine gwL ?_ | simp only [blockG_exit] | (refine gwC ?_ ?_ <;> (intro hb; first | (cases hb; done) | skip)))
      refine ⟨.inr rfl, by simp [Tryd.results7], keep_of G0F (by simp) (by (intro k hk; first | rfl | (simp (disch := omega) only [addB, List.mem_cons, List.not_mem_nil, or_false, upd_other, hpL_cons, hpL_nil, if_neg, updL] <;> done)))⟩
  · (repeat' (first | refine gwS ?_ | simp only [wN, wM, Nat.reduceAdd, Nat.reduceMul] | ((first | refine gwR [] ?_ | refine gwD [] ?_); intro Q hQ hP; simp [hC, hY, h1]; (first | refine hQ _ _ _ _ (by kernel_rfl) ?_ | refine hP _ _ (by kernel_rfl) fun _ => ?_); clear hQ hP Q) | refine gwB ?_ | refine gwT ?_ | refine gwK ?_ | refine gwE ?_ | refine gwG ?_ | refine gwL ?_ | simp only [blockG_exit] | (refine gwC ?_ ?_ <;> (intro hb; first | (cases hb; done) | skip))))
    refine ⟨.inr rfl, by simp [Tryd.results7], keep_of G0F (by simp) (by (intro k hk; first | rfl | (simp (disch := omega) only [addB, List.mem_cons, List.not_mem_nil, or_false, upd_other, hpL_cons, hpL_nil, if_neg, updL] <;> done)))⟩
set_option maxRecDepth 8000 in
set_option maxHeartbeats 4000000 in
theorem NearMoved_00 (st st2 w0 w1 w2 : Int) (hs : i64 st) (hs2 : i64 st2) (hw0 : i64 w0) (hw1 : i64 w1) (hw2 : i64 w2) : Ret Tryd.prog G0 4 #[.agg #[.int .i64 st, .slice none 0 0], .agg #[.int .i64 st2, .slice none 0 0], .agg #[.int .i64 w0, .int .i64 w1, .int .i64 w2]] (.bool true) := by
  refine ret_of G0F Tryd.func4 rfl Tryd.call4 (by simp) (by simp) (by simp [Tryd.ntmps4]) ?_
  intro C hC hC0 hY
  repeat' (first | refine gwS ?_ | simp only [wN, wM, Nat.reduceAdd, Nat.reduceMul] | ((first | refine gwR [] ?_ | refine gwD [] ?_); intro Q hQ hP; simp [hC, hY]; (first | refine hQ _ _ _ _ (by kernel_rfl) ?_ | refine hP _ _ (by kernel_rfl) fun _ => ?_); clear hQ hP Q) | refine gwB ?_ | refine gwT ?_ | refine gwK ?_ | refine gwE ?_ | refine gwG ?_ | refine gwL ?_ | simp only [blockG_exit] | (refine gwC ?_ ?_ <;> (intro hb; first | (cases hb; done) | skip)))
  refine ⟨.inr trivial, ?_⟩
  simp [Tryd.results4]
set_option maxRecDepth 8000 in
set_option maxHeartbeats 4000000 in
theorem NearMoved_0s (b : Blk) (off n cap : Nat) (f : Nat → Int) (h : SB b off n f) (hcap : n ≤ cap) (st st2 w0 w1 w2 : Int) (hs : i64 st) (hs2 : i64 st2) (hw0 : i64 w0) (hw1 : i64 w1) (hw2 : i64 w2) :
    Fun Tryd.prog G0 4 #[.agg #[.int .i64 st, .slice none 0 0], .agg #[.int .i64 st2, .slice (some ⟨100, off, none⟩) n cap], .agg #[.int .i64 w0, .int .i64 w1, .int .i64 w2]] (hpL G0 [(100, b)]) (keys [(100, b)]) (.ret (.bool true) []) := by
  refine fun_ofL (B := 200) G0F Tryd.func4 rfl Tryd.call4 (oneL_ok h.fx) ?_ (by simp) (by simp) (by simp) (by simp [Tryd.ntmps4]) (by omega) ?_
  · simp [idsV, idsA, idsF, ids0, keys]
  intro C hC hC0 hY
  repeat' (first | refine gwS ?_ | simp only [wN, wM, Nat.reduceAdd, Nat.reduceMul] | ((first | refine gwR [] ?_ | refine gwD [] ?_); intro Q hQ hP; simp [hC, hY]; (first | refine hQ _ _ _ _ (by kernel_rfl) ?_ | refine hP _ _ (by kernel_rfl) fun _ => ?_); clear hQ hP Q) | refine gwB ?_ | refine gwT ?_ | refine gwK ?_ | refine gwE ?_ | refine gwG ?_ | refine gwL ?_ | simp only [blockG_exit] | (refine gwC ?_ ?_ <;> (intro hb; first | (cases hb; done) | skip)))
  refine ⟨.inr rfl, by simp [Tryd.results4], keep_of G0F (by simp) (by (intro k hk; first | rfl | (simp (disch := omega) only [addB, List.mem_cons, List.not_mem_nil, or_false, upd_other, hpL_cons, hpL_nil, if_neg, updL] <;> done)))⟩
set_option maxRecDepth 8000 in
set_option maxHeartbeats 4000000 in
theorem NearMoved_s0 (b : Blk) (off n cap : Nat) (f : Nat → Int) (h : SB b off n f) (hcap : n ≤ cap) (st st2 w0 w1 w2 : Int) (hs : i64 st) (hs2 : i64 st2) (hw0 : i64 w0) (hw1 : i64 w1) (hw2 : i64 w2) :
    Fun Tryd.prog G0 4 #[.agg #[.int .i64 st, .slice (some ⟨100, off, none⟩) n cap], .agg #[.int .i64 st2, .slice none 0 0], .agg #[.int .i64 w0, .int .i64 w1, .int .i64 w2]] (hpL G0 [(100, b)]) (keys [(100, b)]) (.ret (.bool true) []) := by
  refine fun_ofL (B := 200) G0F Tryd.func4 rfl Tryd.call4 (oneL_ok h.fx) ?_ (by simp) (by simp) (by simp) (by simp [Tryd.ntmps4]) (by omega) ?_
  · simp [idsV, idsA, idsF, ids0, keys]
  intro C hC hC0 hY
  have hr := fun ρ => Blk.fx_rn h.fx ρ
  cases c0 : rightB st f n with
  | false =>
    repeat' (first | refine gwS ?_ | simp only [wN, wM, Nat.reduceAdd, Nat.reduceMul] | ((first | refine gwR [7] ?_ | refine gwD [7] ?_); intro Q hQ hP; simp [hC, hY, c0]; (repeat ((first | (refine heapK_mv (rig10_fun b off n cap f h st) G0F (B := 200) (oneL_ok h.fx) (fun k => k) (fun k hk => rfl) ?_ (by simp) (by simp [hr]) (by simp [keys]) (by simp [keys]; rfl) ?_; focus (simp [ren, renA, renF, ren0]; done))); try simp [hC, hY, c0])); (first | refine hQ _ _ _ _ (by kernel_rfl) ?_ | refine hP _ _ (by kernel_rfl) fun _ => ?_); clear hQ hP Q) | refine gwB ?_ | refine gwT ?_ | refine gwK ?_ | refine gwE ?_ | refine gwG ?_ | refine gwL ?_ | simp only [blockG_exit] | (refine gwC ?_ ?_ <;> (intro hb; first | (cases hb; done) | skip)))
    refine ⟨.inr rfl, by simp [Tryd.results4], keep_of G0F (by simp) (by (intro k hk; first | rfl | (simp (disch := omega) only [addB, List.mem_cons, List.not_mem_nil, or_false, upd_other, hpL_cons, hpL_nil, if_neg, updL] <;> done)))⟩
  | true =>
    repeat' (first | refine gwS ?_ | simp only [wN, wM, Nat.reduceAdd, Nat.reduceMul] | ((first | refine gwR [7] ?_ | refine gwD [7] ?_); intro Q hQ hP; simp [hC, hY, c0]; (repeat ((first | (refine heapK_mv (rig10_fun b off n cap f h st) G0F (B := 200) (oneL_ok h.fx) (fun k => k) (fun k hk => rfl) ?_ (by simp) (by simp [hr]) (by simp [keys]) (by simp [keys]; rfl) ?_; focus (simp [ren, renA, renF, ren0]; done)) | (refine heapK_mv (rig10_nilF st2) G0F (B := 200) nilL_ok (fun k => k) (fun k hk => rfl) ?_ (by simp) (by simp) (by simp [keys]) (by simp [keys]; rfl) ?_; focus (simp [ren, renA, renF, ren0]; done))); try simp [hC, hY, c0])); (first | refine hQ _ _ _ _ (by kernel_rfl) ?_ | refine hP _ _ (by kernel_rfl) fun _ => ?_); clear hQ hP Q) | refine gwB ?_ | refine gwT ?_ | refine gwK ?_ | refine gwE ?_ | refine gwG ?_ | refine gwL ?_ | simp only [blockG_exit] | (refine gwC ?_ ?_ <;> (intro hb; first | (cases hb; done) | skip)))
    refine ⟨.inr rfl, by simp [Tryd.results4], keep_of G0F (by simp) (by (intro k hk; first | rfl | (simp (disch := omega) only [addB, List.mem_cons, List.not_mem_nil, or_false, upd_other, hpL_cons, hpL_nil, if_neg, updL] <;> done)))⟩
end Go.Gy
namespace Go.Gy
set_option linter.unusedSimpArgs false
set_option linter.unusedVariables false
set_option maxRecDepth 100000
open Go Go.RowKit Go.Proofs Go.ChangeShapes Go.WideShapes Go.ChangeAt

section
variable {H : Type} {enc : TypeId × Value → H} {P : Program}
theorem post_of_below {f : Func} {s : ChangeSpec} {apart fresh handsOn again : Bool} {W W' : World} {args : Array Value} {v : Value} {ds gs : List (DataW H)} {before pa pv : List MemPlace}
    (hW : DataW.Whole enc P f.params.toList s.vars apart W args.toList ds gs before)
    (hres : ∀ (b : Nat) (sp : Nat → Bool) (hd : Bool), DataW.TrodAll enc P W' b sp hd f.resultTypes.toList (v.resultList f.resultTypes.size) (s.fn H (ds ++ gs)).results [])
    (hargs : ∀ sp : Nat → Bool, (∀ p ∈ before, sp p.block = true) → DataW.TrodAll enc P W' 0 sp true f.params.toList args.toList (s.fn H (ds ++ gs)).args pa)
    (hvars : ∀ sp : Nat → Bool, (∀ p ∈ before, sp p.block = true) → DataW.TrodVars enc P W' sp s.vars (s.fn H (ds ++ gs)).vars pv)
    (hps : before = pa ++ pv) (hb : Below W.heap.size W W')
    (hok : ∀ (j : Nat) (t : TypeId) (r : Value), f.resultTypes[j]? = some t → (v.resultList f.resultTypes.size)[j]? = some r → Value.okWide P W' .any 0 t r) :
    s.post enc P f apart fresh handsOn again W args v W' := by
  have hlt : ∀ p ∈ before, p.block < W.heap.size := fun p hp => hW.lt p hp
  have hold : ∀ p ∈ before, (fun b => decide (b < W.heap.size)) p.block = true := fun p hp => by simpa using hlt p hp
  refine ⟨ds, gs, before, [], pa, pv, hW, hres _ _ _, hargs _ hold, hvars _ hold, World.keptBut_mono (fun p hp => ⟨hp, ?_⟩) (hb.frame (· ∈ before)), fun _ => ?_⟩
  · rw [hps, List.mem_append] at hp
    exact Or.inr hp
  · obtain ⟨_, _, _, _, _, hz, hn⟩ := hW
    refine ⟨hok, _, _, ([] ++ pa) ++ pv, ⟨[] ++ pa, pv, trodAll_append (hargs _ (fun _ _ => rfl)) (hres _ _ _), hvars _ (fun _ _ => rfl), rfl, ?_, ?_⟩, ?_⟩
    · intro b off hp
      have hin : MemPlace.cell b off ∈ before := by rw [hps]; simpa using hp
      rw [hb.frozen (hlt _ hin)]
      exact hz b off hin
    · intro ha
      have := hn ha
      rw [hps] at this
      simpa using this
    · intro p hp _
      rw [hps]
      simpa using hp
theorem open_ia {w : World} {base b0 : Nat} {spare : Nat → Bool} {held : Bool} {r : Reach} {t e : TypeId} {n : Nat} {q : IntKind} {v : Value} {d : DataW H} {p : List MemPlace} (ht : P.underlying t = some (.array n e)) (he : P.underlying e = some (.int q)) (hce : P.cellsOf e = 1) (hct : P.cellsOf t = n)
    (hv : Value.okWide P w r b0 t v) (h : DataW.Trod enc P w base spare held t v d p) :
    ∃ zs : List Int, zs.length = n ∧ v = .agg (zs.map (.int q)).toArray ∧ d = .agg (zs.map fun z => .lit (.int q z)) ∧ p = [] ∧ ∀ z ∈ zs, (Lit.int q z).wf = true := by
  simp only [Value.okWide, ht] at hv
  obtain ⟨cs, rfl, hsz, _⟩ := hv
  obtain ⟨fuel, hf⟩ := h
  cases fuel with
  | zero => simp [DataW.trod] at hf
  | succ fuel =>
    simp only [DataW.trod, ht, hce, hct, Nat.mul_one, Value.cells] at hf
    split at hf
    · rename_i hl
      obtain ⟨xs, hm, hx⟩ := Option.map_eq_some_iff.1 hf
      have key : ∀ (l : List Nat) (xs : List (DataW H × List MemPlace)), l.mapM (fun i => DataW.trod enc P w base spare held fuel e ((cs.toList.drop i).take 1)) = some xs →
          ∃ zs : List Int, zs.length = l.length ∧ (∀ j i, l[j]? = some i → ((cs.toList.drop i).take 1) = [Value.int q (zs.getD j 0)]) ∧ xs = zs.map (fun z => (.lit (.int q z), [])) ∧ ∀ z ∈ zs, (Lit.int q z).wf = true := by
        intro l
        induction l with
        | nil => intro xs h; simp at h; subst h; exact ⟨[], rfl, by simp, rfl, by simp⟩
        | cons i l ih =>
          intro xs h
          rw [List.mapM_cons] at h
          simp only [bind, Option.bind_eq_some_iff, pure, Option.some.injEq] at h
          obtain ⟨y, hy, ys, hys, rfl⟩ := h
          obtain ⟨zs, h1, h2, rfl, h4⟩ := ih ys hys
          obtain ⟨z, hz, rfl, hw⟩ := DataW.trod_int he hy
          refine ⟨z :: zs, by simp [h1], fun j i' hj => ?_, rfl, fun x hx => ?_⟩
          · cases j with
            | zero => simp at hj; subst hj; simpa using hz
            | succ j => simp at hj; simpa using h2 j i' hj
          · rcases List.mem_cons.1 hx with rfl | hx
            · exact hw
            · exact h4 x hx
      obtain ⟨zs, h1, h2, rfl, h4⟩ := key _ _ hm
      have hzn : zs.length = n := by simpa using h1
      simp only [Prod.mk.injEq] at hx
      refine ⟨zs, hzn, ?_, by rw [← hx.1]; simp [Function.comp_def], by rw [← hx.2]; simp [List.flatMap_eq_nil_iff], h4⟩
      congr 1
      apply Array.ext'
      simp only
      apply List.ext_getElem?
      intro i
      by_cases hi : i < n
      · have h3 := h2 i i (by simp [hi])
        have h5 : cs.toList[i]? = some (.int q (zs.getD i 0)) := by
          have := congrArg (·[0]?) h3
          simpa [List.getElem?_take, List.getElem?_drop] using this
        have e1 : zs[i]? = some (zs.getD i 0) := by simp [List.getD, List.getElem?_eq_getElem (show i < zs.length by omega)]
        rw [h5, List.getElem?_map, e1]
        rfl
      · rw [List.getElem?_eq_none (by omega), List.getElem?_eq_none (by simp; omega)]
    · cases hf
end

theorem mm_i64 : IntKind.i64.min = -9223372036854775808 ∧ IntKind.i64.max = 9223372036854775807 := by decide
theorem wf_i64 {z : Int} (h : (Lit.int .i64 z).wf = true) : i64 z := by
  simp only [Lit.wf, Bool.and_eq_true, decide_eq_true_eq, mm_i64.1, mm_i64.2] at h; unfold i64; omega
section
variable {H : Type} {enc : TypeId × Value → H} {w : World}
end

theorem own : ownKnob Tryd.prog.godebug = none := by kernel_rfl
theorem heap_of_var {P : Program} {W : World} {name : String} {g : Nat} {cs : Array Value} {z : Array Value} {T : TypeId} (hg : P.globalNamed name = some g) (hlt : g < P.globals.size) (hrow : ((begin P (fun _ _ => 0) default).world.heap[g]?).bind Obj.row? = some (z, T))
    (hS : W.ShapedOpen P) (hv : W.var? P name = some cs) : W.heap[g]? = some (.cells cs T (0, 0)) := by
  obtain ⟨c, h1, _⟩ := hS.1 g z T hlt hrow
  unfold World.var? at hv
  rw [hg] at hv
  simp only [Option.bind_some, h1, Option.some.injEq] at hv
  rw [h1, hv]
theorem cells_of_strs {H : Type} {enc : TypeId × Value → H} {P : Program} {w : World} {base : Nat} {sp : Nat → Bool} {held : Bool} {fuel : Nat} {t e : TypeId} {n : Nat} {cs : List Value} {ss : List (List UInt8)} {p : List MemPlace}
    (ht : P.underlying t = some (.array n e)) (he : P.underlying e = some .string) (hce : P.cellsOf e = 1) (hct : P.cellsOf t = n)
    (h : DataW.trod enc P w base sp held fuel t cs = some (.agg (ss.map fun s => .lit (.string s)), p)) : cs = ss.map fun s => Value.string ⟨s.toArray⟩ := by
  cases fuel with
  | zero => simp [DataW.trod] at h
  | succ fuel =>
    simp only [DataW.trod, ht, hce, hct, Nat.mul_one] at h
    split at h
    · rename_i hl
      obtain ⟨xs, hm, hx⟩ := Option.map_eq_some_iff.1 h
      have hxs : xs.map (·.1) = ss.map fun s => (DataW.lit (.string s) : DataW H) := by
        have := congrArg Prod.fst hx
        simpa using this
      have hxl : xs.length = n := by simpa using Lib.mapM_length hm
      have hzl : ss.length = n := by
        have := congrArg List.length hxs
        simp at this
        omega
      apply List.ext_getElem?
      intro i
      by_cases hi : i < n
      · obtain ⟨b, hb, hf⟩ := Lib.mapM_at hm i i (by simp [hi])
        obtain ⟨s, hc, rfl, _⟩ := DataW.trod_string he hf
        have h1 : cs[i]? = some (.string s) := by
          have := congrArg (·[0]?) hc
          simpa [List.getElem?_take, List.getElem?_drop] using this
        have h2 : (xs.map (·.1))[i]? = some (DataW.lit (.string s.data.toList) : DataW H) := by simp [hb]
        rw [hxs] at h2
        simp only [List.getElem?_map, Option.map_eq_some_iff, DataW.lit.injEq, Lit.string.injEq] at h2
        obtain ⟨z', hz', rfl⟩ := h2
        simp [h1, hz']
      · rw [List.getElem?_eq_none (by omega), List.getElem?_eq_none (by simp; omega)]
    · cases h
theorem gNames : Tryd.prog.globalNamed "gyre/conf.names" = some 0 := by kernel_rfl
theorem gNamesType : (Tryd.prog.globals[0]?).map (·.type) = some 101 := by kernel_rfl
theorem cells_str : Tryd.prog.cellsOf 9 = 1 := by kernel_rfl
theorem cells_names : Tryd.prog.cellsOf 101 = 7 := by kernel_rfl
theorem gNamesRow : ((begin Tryd.prog (fun _ _ => 0) default).world.heap[0]?).bind Obj.row? = some (#[.string ⟨#[]⟩, .string ⟨#[]⟩, .string ⟨#[]⟩, .string ⟨#[]⟩, .string ⟨#[]⟩, .string ⟨#[]⟩, .string ⟨#[]⟩], 101) := by kernel_rfl
theorem names_of {W : World} {rest : List (String × DataW Unit)} (h : laidMet Tryd.prog (("gyre/conf.names", Proofs.YtlageemaenplfaaDoor.Rows.laid_gyre_conf_names) :: rest) W) : W.var? Tryd.prog "gyre/conf.names" = some cnB.c := by
  obtain ⟨ps, ⟨g', t', cs, fuel, p, q, hg', ht', hvar, hd, _, _⟩, _⟩ := h
  obtain rfl := Option.some.inj (gNames.symm.trans hg')
  obtain rfl := Option.some.inj (gNamesType.symm.trans ht')
  have h9 := cells_of_strs (ss := [[98, 111, 100, 105, 101, 115], [109, 97, 115, 115], [99, 111, 110, 115, 116, 97, 110, 116], [98, 111, 120], [116, 111, 112], [110, 101, 97, 114], [109, 101, 116, 104, 111, 100]]) Tryd.underlying101 Tryd.underlying9 cells_str cells_names hd
  rw [hvar]
  congr 1
  exact Array.ext' h9
theorem gok_names {W : World} (hS : W.ShapedOpen Tryd.prog) (hv : W.var? Tryd.prog "gyre/conf.names" = some cnB.c) : GOK G0 W := fun k b hk => by
  have h := G0_mem hk
  simp [G0L] at h
  obtain ⟨rfl, rfl⟩ := h
  exact heap_of_var gNames (of_decide_eq_true (by kernel_rfl)) gNamesRow hS hv
theorem celln_int : Tryd.prog.cellsOf 3 = 1 := by kernel_rfl
theorem cells_vec : Tryd.prog.cellsOf 40 = 3 := by kernel_rfl
theorem cells_body : Tryd.prog.cellsOf 42 = 6 := by kernel_rfl
theorem cells_bodies : Tryd.prog.cellsOf 25 = 1 := by kernel_rfl
theorem cells_state : Tryd.prog.cellsOf 27 = 2 := by kernel_rfl
theorem ctypes_state : Tryd.prog.cellTypes Tryd.prog.depth 27 = some [3, 25] := by kernel_rfl
section
variable {H : Type} {enc : TypeId × Value → H} {w : World} {base : Nat} {spare : Nat → Bool} {held : Bool}
theorem vec_cells {fuel : Nat} {cs : List Value} {x : DataW H × List MemPlace} (h : DataW.trod enc Tryd.prog w base spare held fuel 40 cs = some x) : cs.length = 3 ∧ ∀ j, j < 3 → ∃ z, cs[j]? = some (.int .i64 z) ∧ i64 z := by
  obtain ⟨xs, m, _, rfl, hl, hxs, hi⟩ := DataW.trod_array Tryd.underlying40 h
  rw [cells_vec] at hl
  refine ⟨hl, fun j hj => ?_⟩
  have h1 := hi j hj
  rw [celln_int, Nat.mul_one, List.getElem?_eq_getElem (by omega)] at h1
  obtain ⟨z, e, _, hw⟩ := DataW.trod_int Tryd.underlying3 h1
  refine ⟨z, ?_, wf_i64 hw⟩
  have := congrArg (·[0]?) e
  simpa [List.getElem?_take, List.getElem?_drop] using this
theorem body_cells {fuel : Nat} {cs : List Value} {x : DataW H × List MemPlace} (h : DataW.trod enc Tryd.prog w base spare held fuel 42 cs = some x) : cs.length = 6 ∧ ∀ j, j < 6 → ∃ z, cs[j]? = some (.int .i64 z) ∧ i64 z := by
  obtain ⟨y0, y1, n, rfl, hl, h0, h1⟩ := trod_struct2 Tryd.underlying42 h
  rw [cells_body] at hl
  simp only [cells_vec] at h0 h1
  refine ⟨hl, fun j hj => ?_⟩
  by_cases c : j < 3
  · obtain ⟨z, e, hz⟩ := (vec_cells h0).2 j c
    refine ⟨z, ?_, hz⟩
    simpa [List.getElem?_take, List.getElem?_drop, c] using e
  · obtain ⟨z, e, hz⟩ := (vec_cells h1).2 (j - 3) (by omega)
    refine ⟨z, ?_, hz⟩
    rw [List.getElem?_take, if_pos (by omega), List.getElem?_drop, show 3 + (j - 3) = j by omega] at e
    exact e
theorem open_bodies {fuel : Nat} {cs : List Value} {x : DataW H × List MemPlace} (h : DataW.trod enc Tryd.prog w 0 (fun _ => true) held fuel 25 cs = some x) :
    cs = [.slice none 0 0] ∨ ∃ (a : Addr) (len cap : Nat) (f : Nat → Int), cs = [.slice (some a) len cap] ∧ len ≤ cap ∧ ∀ j, j < 6 * cap → w.cell? (a.add j) = some (.int .i64 (f j)) ∧ i64 (f j) := by
  rcases Deep.open_slice Tryd.underlying25 h with ⟨h0, _⟩ | ⟨a, len, cap, m, n, D, Pl, rfl, _, hlc, hcm, hm, _, hel⟩
  · exact .inl h0
  right
  rw [if_pos rfl] at hm
  subst hm
  refine ⟨a, len, m, fun j => match w.cell? (a.add j) with | some (.int _ z) => z | _ => 0, rfl, hlc, fun j hj => ?_⟩
  obtain ⟨cs', h1, h2⟩ := hel (j / 6) (by omega)
  rw [cells_body] at h1
  obtain ⟨z, e, hz⟩ := (body_cells h2).2 (j % 6) (by omega)
  unfold World.cells? at h1
  rw [if_pos (Nat.zero_le _)] at h1
  have h3 := mapM_some_get h1 (j % 6) (j % 6) (List.getElem?_range (by omega))
  rw [e, Deep.add_add, show j / 6 * 6 + j % 6 = j by omega] at h3
  dsimp only
  rw [h3]
  exact ⟨rfl, hz⟩
theorem rowAt_str {fits : TypeId → Bool} (h : fits 9 = false) (d c o n : Nat) : rowAt Tryd.prog fits d 9 c o n = false := by
  cases d with
  | zero => rfl
  | succ d => simp [rowAt, h, Tryd.underlying9]
theorem rowAt_names {fits : TypeId → Bool} (h : fits 9 = false) (h2 : fits 101 = false) (d c o n : Nat) : rowAt Tryd.prog fits d 101 c o n = false := by
  cases d with
  | zero => rfl
  | succ d => simp [rowAt, h2, Tryd.underlying101, rowAt_str h]
theorem lies_names (d c o n : Nat) : liesAt Tryd.prog d 101 c o 42 n = false := by
  cases d with
  | zero => rfl
  | succ d =>
    unfold liesAt
    rw [rowAt_names (by kernel_rfl) (by kernel_rfl), Tryd.underlying42]
    rfl
theorem G0_lies : ∀ p ∈ G0L, ∃ t, p.2.T = .ty t ∧ ∀ d c o n, liesAt Tryd.prog d t c o 42 n = false := by
  intro p hp
  unfold G0L at hp
  rcases List.mem_cons.1 hp with rfl | hp
  · exact ⟨_, rfl, lies_names⟩
  cases hp
structure StAt (W : World) (k off n cap : Nat) (b : Blk) (f : Nat → Int) : Prop where
  le : n ≤ cap
  heap : W.heap[k]? = some b.obj0
  fx : b.fx
  raw : ∃ c T fr, b = ⟨c, .raw T fr⟩
  rd : rdI b off (6 * cap) f
  i6 : ∀ j, j < 6 * cap → i64 (f j)
  lies : ∃ row c, W.shape? k = some (row, c) ∧ liesAt Tryd.prog Tryd.prog.depth row (c / Tryd.prog.cellsOf row) off 42 cap = true
theorem StAt.sb {W : World} {k off n cap : Nat} {b : Blk} {f : Nat → Int} (h : StAt W k off n cap b f) (hn : n ≤ 2932031007402) : SB b off n f := ⟨h.rd.le (by have := h.le; omega), h.fx, fun j hj => h.i6 j (by have := h.le; omega), hn⟩
theorem open_state {r : Reach} {b0 : Nat} {v : Value} {d : DataW H} {p : List MemPlace} (hv : Value.okWide Tryd.prog w r b0 27 v) (h : DataW.Trod enc Tryd.prog w 0 (fun _ => true) held 27 v d p) :
    ∃ st, i64 st ∧ (v = .agg #[.int .i64 st, .slice none 0 0] ∨ ∃ (k off n cap : Nat) (b : Blk) (f : Nat → Int), v = .agg #[.int .i64 st, .slice (some ⟨k, off, none⟩) n cap] ∧ StAt w k off n cap b f) := by
  simp only [Value.okWide, Tryd.underlying27] at hv
  obtain ⟨cs, rfl, hsz, ts, hts, _, hall⟩ := hv
  rw [ctypes_state] at hts
  simp only [Option.some.injEq] at hts
  subst hts
  obtain ⟨fuel, hf⟩ := h
  obtain ⟨y0, y1, n, _, hl, h0, h1⟩ := trod_struct2 Tryd.underlying27 hf
  rw [celln_int] at h0
  rw [cells_bodies] at h1
  simp only [Value.cells] at h0 h1
  obtain ⟨st, e0, _, hw⟩ := DataW.trod_int Tryd.underlying3 h0
  rw [cells_state] at hsz
  obtain ⟨c0, c1, rfl⟩ : ∃ c0 c1, cs = #[c0, c1] := by
    obtain ⟨l⟩ := cs
    match l, hsz with
    | [c0, c1], _ => exact ⟨c0, c1, rfl⟩
  simp at e0
  subst e0
  refine ⟨st, wf_i64 hw, ?_⟩
  rcases open_bodies h1 with e1 | ⟨a, len, cap, f, e1, hle, hc⟩
  · simp at e1
    subst e1
    exact .inl rfl
  · simp at e1
    subst e1
    right
    obtain ⟨u, hu, hok⟩ := hall 1 _ rfl
    simp at hu
    subst hu
    simp only [Cell.okWide, Cell.ok, Tryd.underlying25] at hok
    obtain ⟨_, _, _, hsp, row, cells, hsh, hlies⟩ := hok
    obtain ⟨k, off, sp⟩ := a
    simp only at hsp hsh hlies
    subst hsp
    have hsh' := hsh
    unfold World.shape? at hsh'
    split at hsh'
    · rename_i c T fr hh
      simp only [Option.some.injEq, Prod.mk.injEq] at hsh'
      obtain ⟨rfl, rfl⟩ := hsh'
      refine ⟨k, off, len, cap, ⟨c, .raw T fr⟩, f, rfl, hle, hh, trivial, ⟨c, T, fr, rfl⟩, fun j hj => ?_, fun j hj => (hc j hj).2, T, _, hsh, hlies⟩
      have h2 := (hc j hj).1
      rw [Addr.add_lit] at h2
      simpa [World.cell?, hh] using h2
    · cases hsh'
end
theorem open_vec {H : Type} {enc : TypeId × Value → H} {w : World} {base b0 : Nat} {spare : Nat → Bool} {held : Bool} {r : Reach} {v : Value} {d : DataW H} {p : List MemPlace} (hv : Value.okWide Tryd.prog w r b0 40 v) (h : DataW.Trod enc Tryd.prog w base spare held 40 v d p) :
    ∃ x y z, (Lit.int .i64 x).wf = true ∧ (Lit.int .i64 y).wf = true ∧ (Lit.int .i64 z).wf = true ∧ v = .agg #[.int .i64 x, .int .i64 y, .int .i64 z] ∧ d = .agg [.lit (.int .i64 x), .lit (.int .i64 y), .lit (.int .i64 z)] ∧ p = [] := by
  obtain ⟨zs, hl, rfl, rfl, rfl, hw⟩ := open_ia Tryd.underlying40 Tryd.underlying3 celln_int cells_vec hv h
  match zs, hl with
  | [x, y, z], _ => exact ⟨x, y, z, hw _ (by simp), hw _ (by simp), hw _ (by simp), by simp, by simp, rfl⟩
theorem trodAll_stays {H : Type} {enc : TypeId × Value → H} {P : Program} {base : Nat} (hl : laidOutB P = true) {W W' : World} {sp' : Nat → Bool} : ∀ (ts : List TypeId) (vs : List Value) (ds : List (DataW H)) (ps : List MemPlace), (∀ t ∈ ts, P.readableRec t = true ∧ t < P.types.size) →
    DataW.TrodAll enc P W base (fun _ => true) true ts vs ds ps → (∀ p ∈ ps, W.sameAt W' p) → (∀ p ∈ ps, sp' p.block = true) → DataW.TrodAll enc P W' base sp' true ts vs ds ps
  | [], [], [], _, _, h, _, _ => h
  | t :: _, _ :: _, _ :: _, _, hT, ⟨p, q, h1, h2, e⟩, hm, hs => ⟨p, q, WideElems.Trod_stays hl (hT t (by simp)).1 (hT t (by simp)).2 h1 (fun x hx => hm x (by rw [e]; exact List.mem_append_left _ hx)) (fun x hx => hs x (by rw [e]; exact List.mem_append_left _ hx)),
      trodAll_stays hl _ _ _ _ (fun t ht => hT t (List.mem_cons_of_mem _ ht)) h2 (fun x hx => hm x (by rw [e]; exact List.mem_append_right _ hx)) (fun x hx => hs x (by rw [e]; exact List.mem_append_right _ hx)), e⟩
theorem laid_out : laidOutB Tryd.prog = true := by kernel_rfl
theorem bytes_body : Tryd.prog.bytesOf 42 = 48 := by kernel_rfl
theorem cap_le {H : Type} {enc : TypeId × Value → H} {w : World} {held : Bool} {st : Int} {a : Addr} {n cap : Nat} {d : DataW H} {p : List MemPlace} (h : DataW.Trod enc Tryd.prog w 0 (fun _ => true) held 27 (.agg #[.int .i64 st, .slice (some a) n cap]) d p) (hw : ∀ x ∈ d.weights Tryd.prog 27, x ≤ reachBytes) : cap ≤ 2932031007402 := by
  obtain ⟨fuel, hf⟩ := h
  obtain ⟨y0, y1, m, hx, hl, h0, h1⟩ := trod_struct2 Tryd.underlying27 hf
  rw [cells_bodies] at h1
  simp only [Value.cells] at h1
  rcases Deep.open_slice Tryd.underlying25 h1 with ⟨e1, _⟩ | ⟨a', len, cap', m', n', D, Pl, e1, _, hlc, hcm, hm, hy1, _⟩
  · simp at e1
  · simp at e1
    obtain ⟨rfl, rfl, rfl⟩ := e1
    rw [if_pos rfl] at hm
    subst hm
    simp only [Prod.mk.injEq] at hx
    have hd := hx.1
    rw [hd, hy1] at hw
    have := hw ((n + (m' - n)) * 48) (by
      simp only [DataW.weights, Tryd.underlying27]
      simp [DataW.weightsEach, DataW.weights, Tryd.underlying25, bytes_body])
    unfold reachBytes at this
    omega
theorem StAt.ne {W : World} {k off n cap : Nat} {b : Blk} {f : Nat → Int} (h : StAt W k off n cap b f) (hg : GOK G0 W) : ∀ g c, G0 g = some c → k ≠ g := fun g c hc e => by
  have h1 := hg g c hc
  obtain ⟨t, ht, hl'⟩ := G0_lies _ (G0_mem hc)
  obtain ⟨row, q, hsh, hl⟩ := h.lies
  rw [e] at hsh
  unfold World.shape? at hsh
  rw [h1] at hsh
  obtain ⟨cc, T⟩ := c
  simp only at ht
  subst ht
  simp only [Blk.obj0, Option.some.injEq, Prod.mk.injEq] at hsh
  obtain ⟨rfl, rfl⟩ := hsh
  rw [hl'] at hl
  cases hl
theorem fun_state {P : Program} {G : Hp} {fn : FuncId} {args : Array Value} {b : Blk} {v : Value} {W : World} {k : Nat} (hGF : GFlat G) (hF : Fun P G fn args (hpL G [(100, b)]) (keys [(100, b)]) (.ret v [])) (hv : flatV v = true) (hgok : GOK G W) (hfx : b.fx) (hk : W.heap[k]? = some b.obj0) (hne : ∀ g c, G g = some c → k ≠ g) :
    CallsS P fn (args.map (ren fun q => if q = 100 then k else q)) W fun e W' => e = .returned v ∧ Below W.heap.size W W' := by
  have er : rst (hpL G [(100, b)]) (keys [(100, b)]) = hpL G [(100, b)] := LOk.rst hGF
  have hobj : ∀ r, b.obj r = b.obj0 := fun r => by
    obtain ⟨c, T⟩ := b
    cases T with
    | ty t => exact Blk.obj_flat hfx
    | raw t fr => rfl
    | mp => exact hfx.elim
  have hmem : ∀ q c, hpL G [(100, b)] q = some c → (q = 100 ∧ c = b) ∨ (q < 100 ∧ G q = some c) := fun q c hq => by
    rcases hpL_mem hq with h | h
    · simp at h; exact .inl h
    · exact .inr ⟨(hGF q c h).1, h⟩
  have hrun := hF.run (fun q => if q = 100 then k else q) W hgok ?_ ?_ ?_
  · refine hrun.mono fun e W' h => ?_
    obtain ⟨he, ht⟩ := h
    rw [flatV_ren hv] at he
    exact ⟨he, ht.os, ht.tape, ht.output, ht.size, fun q hq => ht.same q hq (by simp)⟩
  · rw [er]
    intro q c hq
    rcases hmem q c hq with ⟨rfl, rfl⟩ | ⟨hlt, hG⟩
    · exact ⟨by simp only [if_true]; rw [hobj]; exact hk, Blk.fx_ids hfx _⟩
    · refine ⟨?_, Blk.flat_ids (hGF q c hG).2⟩
      have e1 : (fun q => if q = 100 then k else q) q = q := if_neg (by omega)
      rw [e1, hgok q c hG]
      congr 1
      obtain ⟨cc, T⟩ := c
      cases T with
      | ty t => exact (Blk.obj_flat (hGF q _ hG).2).symm
      | raw t fr => rfl
      | mp => exact (Blk.obj_flat (hGF q _ hG).2).symm
  · rw [er]
    intro q q' hq hq' e
    have e : (if q = 100 then k else q) = if q' = 100 then k else q' := e
    unfold dom at hq hq'
    cases h1 : hpL G [(100, b)] q with
    | none => exact absurd h1 hq
    | some c =>
      cases h2 : hpL G [(100, b)] q' with
      | none => exact absurd h2 hq'
      | some c' =>
        rcases hmem q c h1 with ⟨rfl, _⟩ | ⟨hlt, hG⟩ <;> rcases hmem q' c' h2 with ⟨rfl, _⟩ | ⟨hlt', hG'⟩
        · rfl
        · rw [if_pos rfl, if_neg (by omega)] at e; exact absurd e (hne _ _ hG')
        · rw [if_neg (by omega), if_pos rfl] at e; exact absurd e.symm (hne _ _ hG)
        · rw [if_neg (by omega), if_neg (by omega)] at e; exact e
  · intro q hq _
    exact if_neg (by omega)
section
variable {H : Type} {enc : TypeId × Value → H} {w : World} {base : Nat} {spare : Nat → Bool} {held : Bool}
end
theorem raw_same {W : World} {k : Nat} {b b' : Blk} (h : W.heap[k]? = some b.obj0) (h' : W.heap[k]? = some b'.obj0) (r : ∃ c T fr, b = ⟨c, .raw T fr⟩) (r' : ∃ c T fr, b' = ⟨c, .raw T fr⟩) : b = b' := by
  obtain ⟨c, T, fr, rfl⟩ := r
  obtain ⟨c', T', fr', rfl⟩ := r'
  rw [h] at h'
  simp only [Blk.obj0, Option.some.injEq, Obj.cells.injEq] at h'
  obtain ⟨rfl, rfl, rfl⟩ := h'
  rfl
theorem fun_L {P : Program} {G : Hp} {fn : FuncId} {args : Array Value} {L : List (Nat × Blk)} {v : Value} {W : World} (r : Nat → Nat) (hGF : GFlat G) (hF : Fun P G fn args (hpL G L) (keys L) (.ret v [])) (hv : flatV v = true) (hgok : GOK G W) (hL : LOk L 200) (hfx : ∀ p ∈ L, p.2.fx)
    (hr : ∀ p ∈ L, W.heap[r p.1]? = some p.2.obj0) (hne : ∀ p ∈ L, ∀ g c, G g = some c → r p.1 ≠ g) (hinj : ∀ p ∈ L, ∀ q ∈ L, r p.1 = r q.1 → p.1 = q.1) (hlow : ∀ q, q < 100 → r q = q) :
    CallsS P fn (args.map (ren r)) W fun e W' => e = .returned v ∧ Below W.heap.size W W' := by
  have er : rst (hpL G L) (keys L) = hpL G L := LOk.rst hGF
  have hobj : ∀ (b : Blk), b.fx → ∀ r, b.obj r = b.obj0 := fun b hb r => by
    obtain ⟨c, T⟩ := b
    cases T with
    | ty t => exact Blk.obj_flat hb
    | raw t fr => rfl
    | mp => exact hb.elim
  have hmem : ∀ q c, hpL G L q = some c → (q, c) ∈ L ∨ (q < 100 ∧ G q = some c) := fun q c hq => by
    rcases hpL_mem hq with h | h
    · exact .inl h
    · exact .inr ⟨(hGF q c h).1, h⟩
  have hrun := hF.run r W hgok ?_ ?_ ?_
  · refine hrun.mono fun e W' h => ?_
    obtain ⟨he, ht⟩ := h
    rw [flatV_ren hv] at he
    exact ⟨he, ht.os, ht.tape, ht.output, ht.size, fun q hq => ht.same q hq (by simp)⟩
  · rw [er]
    intro q c hq
    rcases hmem q c hq with h | ⟨hlt, hG⟩
    · exact ⟨by rw [hobj c (hfx _ h)]; exact hr _ h, Blk.fx_ids (hfx _ h) _⟩
    · refine ⟨?_, Blk.flat_ids (hGF q c hG).2⟩
      rw [hlow q hlt, hgok q c hG]
      congr 1
      obtain ⟨cc, T⟩ := c
      cases T with
      | ty t => exact (Blk.obj_flat (hGF q _ hG).2).symm
      | raw t fr => rfl
      | mp => exact (Blk.obj_flat (hGF q _ hG).2).symm
  · rw [er]
    intro q q' hq hq' e
    unfold dom at hq hq'
    cases h1 : hpL G L q with
    | none => exact absurd h1 hq
    | some c =>
      cases h2 : hpL G L q' with
      | none => exact absurd h2 hq'
      | some c' =>
        rcases hmem q c h1 with h | ⟨hlt, hG⟩ <;> rcases hmem q' c' h2 with h' | ⟨hlt', hG'⟩
        · exact hinj _ h _ h' e
        · rw [hlow q' hlt'] at e; exact absurd e (hne _ h _ _ hG')
        · rw [hlow q hlt] at e; exact absurd e.symm (hne _ h' _ _ hG)
        · rw [hlow q hlt, hlow q' hlt'] at e; exact e
  · intro q hq _
    exact hlow q hq
def nmL (k k2 q : Nat) : Nat := if q = 100 then k else if q = 108 then k2 else q
theorem nmL_low (k k2 q : Nat) (h : q < 100) : nmL k k2 q = q := by
  unfold nmL
  rw [if_neg (by omega), if_neg (by omega)]
@[simp] theorem nmL_a (k k2 : Nat) : nmL k k2 100 = k := by simp [nmL]
@[simp] theorem nmL_b (k k2 : Nat) : nmL k k2 108 = k2 := by simp [nmL]
theorem fun_two {P : Program} {G : Hp} {fn : FuncId} {args : Nat → Array Value} {b b2 : Blk} {v : Value} {W : World} {k k2 : Nat} (hGF : GFlat G) (hF : ∀ L ks, LTwo G L ks b b2 → Fun P G fn (args ks) (hpL G L) (keys L) (.ret v [])) (hv : flatV v = true) (hgok : GOK G W)
    (h1 : b.fx) (h2 : b2.fx) (w1 : W.heap[k]? = some b.obj0) (w2 : W.heap[k2]? = some b2.obj0) (r1 : ∃ c T fr, b = ⟨c, .raw T fr⟩) (r2 : ∃ c T fr, b2 = ⟨c, .raw T fr⟩) (n1 : ∀ g c, G g = some c → k ≠ g) (n2 : ∀ g c, G g = some c → k2 ≠ g) {args' : Array Value}
    (ha : ∀ ks, ks = 100 ∧ k = k2 ∨ ks = 108 → (args ks).map (ren (nmL k k2)) = args') : CallsS P fn args' W fun e W' => e = .returned v ∧ Below W.heap.size W W' := by
  by_cases e : k = k2
  · subst e
    obtain rfl := raw_same w1 w2 r1 r2
    have := fun_L (nmL k k) hGF (hF _ _ (LTwo.one h1)) hv hgok (LTwo.one (G := G) h1).ok (LTwo.one (G := G) h1).fx (by simp [w1]) (by simp; exact n1) (by simp) (nmL_low k k)
    rwa [ha 100 (.inl ⟨rfl, rfl⟩)] at this
  · have := fun_L (nmL k k2) hGF (hF _ _ (LTwo.two h1 h2)) hv hgok (LTwo.two (G := G) h1 h2).ok (LTwo.two (G := G) h1 h2).fx (by simp [w1, w2]) (by simp; exact ⟨n1, n2⟩) (by simp; exact ⟨fun h => e h, fun h => e h.symm⟩) (nmL_low k k2)
    rwa [ha 108 (.inr rfl)] at this
theorem lies_namesI (d c o n : Nat) : liesAt Tryd.prog d 101 c o 3 n = false := by
  cases d with
  | zero => rfl
  | succ d =>
    unfold liesAt
    rw [rowAt_names (by kernel_rfl) (by kernel_rfl), Tryd.underlying3]
    rfl
theorem G0_liesI : ∀ p ∈ G0L, ∃ t, p.2.T = .ty t ∧ ∀ d c o n, liesAt Tryd.prog d t c o 3 n = false := by
  intro p hp
  unfold G0L at hp
  rcases List.mem_cons.1 hp with rfl | hp
  · exact ⟨_, rfl, lies_namesI⟩
  cases hp
structure CfAt (W : World) (k off n cap : Nat) (b : Blk) (f : Nat → Int) : Prop where
  le : n ≤ cap
  heap : W.heap[k]? = some b.obj0
  fx : b.fx
  raw : ∃ c T fr, b = ⟨c, .raw T fr⟩
  rd : rdI b off cap f
  i6 : ∀ j, j < cap → i64 (f j)
  lies : ∃ row c, W.shape? k = some (row, c) ∧ liesAt Tryd.prog Tryd.prog.depth row (c / Tryd.prog.cellsOf row) off 3 cap = true
theorem CfAt.ne {W : World} {k off n cap : Nat} {b : Blk} {f : Nat → Int} (h : CfAt W k off n cap b f) (hg : GOK G0 W) : ∀ g c, G0 g = some c → k ≠ g := fun g c hc e => by
  have h1 := hg g c hc
  obtain ⟨t, ht, hl'⟩ := G0_liesI _ (G0_mem hc)
  obtain ⟨row, q, hsh, hl⟩ := h.lies
  rw [e] at hsh
  unfold World.shape? at hsh
  rw [h1] at hsh
  obtain ⟨cc, T⟩ := c
  simp only at ht
  subst ht
  simp only [Blk.obj0, Option.some.injEq, Prod.mk.injEq] at hsh
  obtain ⟨rfl, rfl⟩ := hsh
  rw [hl'] at hl
  cases hl
section
variable {H : Type} {enc : TypeId × Value → H} {w : World} {held : Bool}
end
end Go.Gy
