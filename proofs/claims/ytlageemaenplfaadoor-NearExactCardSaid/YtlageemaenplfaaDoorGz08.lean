/-
  Lemmas of this claim, in their order (GyNT, GyNU, GyH, GyHS, GyHP, GyHT, GyHC).
  Conditions: those of each theorem.
-/
import Derived.Test.YtlageemaenplfaaDoorGz07
import Derived.Test.YtlageemaenplfaaDoorCards
import Derived.Test.YtlageemaenplfaaDoorTie
import Derived.WalkKit
import Derived.ProofKit
import Derived.OpenShut
import Derived.Below
import Derived.ChangeSame
import Derived.Deep.DeepHandedRow
import Derived.Lib.LaidTab
import Derived.Deep.Slices
import Derived.ReadAgain
import Derived.Carry
import Derived.Deep.Strs
import Derived.ChangeSlices
namespace Go.Gy
set_option linter.unusedSimpArgs false
set_option linter.unusedVariables false
open Go Go.RowKit Go.Proofs
theorem near_at (nk : Nat) (hnk : 200 ≤ nk) (L : List (Nat × Blk)) (ks : Nat) (bm bs : Blk) (hT : LTwo G0 L ks bm bs) (off n cap off2 n2 cap2 : Nat) (fm fs : Nat → Int) (hm : MB bm off n fm) (hSb : SB bs off2 n2 fs) (hcap : n2 ≤ cap2) (g bx tp nr md st : Int) (hs : i64 st) :
    FunS Tryd.prog G0 10 #[cfV (.slice (some ⟨100, off, none⟩) n cap) g bx tp nr md, .agg #[.int .i64 st, .slice (some ⟨ks, off2, none⟩) n2 cap2]] (hpL G0 L) (keys L)
      (PrR nk (nearL (cfOk n fm g bx tp nr md) nr (prs st fs n2)).length (pF (nearL (cfOk n fm g bx tp nr md) nr (prs st fs n2)))) := by
  have hks := hT.k2
  have hρ : ∀ k, k < 200 → (if k = 1000 then nk else k) = k := fun k hk => if_neg (by omega)
  have hid : ∀ k ∈ keys L, (if k = 1000 then nk else k) = k := fun k hk => by
    obtain ⟨p, hp, rfl⟩ := mem_keys.1 hk
    exact hρ _ (hT.ok.big p hp).2
  refine (nNear_L L ks bm bs hT off n cap off2 n2 cap2 fm fs hm hSb hcap g bx tp nr md st hs).mvL G0F hT.ok (fun k => if k = 1000 then nk else k) (fun k hk => hρ k (by omega)) (by simp [cfV, ren, renA, renF, ren0, hρ ks hks]) ?_ (prR_rr (by simp)) hT.ok.low (fun p hp => ?_) (fun k hk l hl e => ?_) (fun v ns hV k hk => ?_) (fun v ns hV k hk l hl _ => by rw [prR_key hV k hk, prR_key hV l hl])
  · rw [List.map_congr_left hid, List.map_id']
  · have hb := hT.ok.big p hp
    refine ⟨by rw [hρ _ hb.2]; exact hb.1, ?_⟩
    rw [hρ _ hb.2, Blk.fx_rn (hT.fx p hp)]
    exact hT.mem p hp
  · rwa [hid k hk, hid l hl] at e
  · rw [prR_key hV k hk]
    refine ⟨by simp; omega, fun hm => ?_⟩
    obtain ⟨p, hp, e⟩ := mem_keys.1 hm
    have := (hT.ok.big p hp).2
    simp at e
    omega
def x0N : List (Nat × Nat) := [(0, 27), (1, 28), (2, 29), (3, 30), (4, 31), (5, 5), (6, 6)]
def x0X : List (Nat × Nat) := []
def x0D : List (Nat × Nat) := []
def x0V (L : List (Nat × Blk)) (bm bs : Blk) (ks : Nat) (off n cap off2 n2 cap2 : Nat) (g bx tp nr md st : Int) (l nl : List Pr)  : Nat → Value
  | 0 => .agg #[.int .i64 st, .slice (some ⟨ks, off2, none⟩) n2 cap2]
  | 1 => .slice none 0 0
  | 2 => .agg #[.slice (some ⟨100, off, none⟩) n cap, .int .i64 g, .int .i64 bx, .int .i64 tp, .int .i64 nr, .int .i64 md]
  | 3 => .agg #[.int .i64 st, .slice (some ⟨ks, off2, none⟩) n2 cap2]
  | 4 => .slice none 0 0
  | 5 => .slice none 0 0
  | 6 => .slice none 0 0
  | _ => .bool true
def x0Bk (L : List (Nat × Blk)) (bm bs : Blk) (ks : Nat) (off n cap off2 n2 cap2 : Nat) (g bx tp nr md st : Int) (l nl : List Pr)  : Nat → Blk

  | _ => ⟨#[], .mp⟩
structure x0F (L : List (Nat × Blk)) (bm bs : Blk) (ks : Nat) (off n cap off2 n2 cap2 : Nat) (g bx tp nr md st : Int) (l nl : List Pr) (ts0 : Nat → Value) (hp0 : Hp) : Prop where
  e2 : ts0 2 = .pointer (some ⟨200, 0, none⟩)
  e3 : ts0 3 = .pointer (some ⟨208, 0, none⟩)
  b200 : hp0 200 = some (⟨#[.slice (some ⟨100, off, none⟩) n cap, .int .i64 g, .int .i64 bx, .int .i64 tp, .int .i64 nr, .int .i64 md], .ty 24⟩)
  b208 : hp0 208 = some (⟨#[.int .i64 st, .slice (some ⟨ks, off2, none⟩) n2 cap2], .ty 27⟩)
  low : ∀ k, k < 100 → hp0 k = G0 k
  bL : ∀ p ∈ L, hp0 p.1 = some p.2
theorem x0N1 : (x0N.map Prod.fst).Nodup := by decide +kernel
theorem x0N2 : (x0N.map Prod.snd).Nodup := by decide +kernel
theorem x0X200 : ∀ k, k < 200 → k ∉ x0X.map Prod.snd := fun k hk => by simp [x0X]; try omega
def x1N : List (Nat × Nat) := [(0, 27), (1, 28), (2, 29), (3, 30), (4, 31), (5, 5), (6, 6)]
def x1X : List (Nat × Nat) := [(1, 296)]
def x1D : List (Nat × Nat) := [(5, 1)]
def x1V (L : List (Nat × Blk)) (bm bs : Blk) (ks : Nat) (off n cap off2 n2 cap2 : Nat) (g bx tp nr md st : Int) (l nl : List Pr) (c1 : Nat) (g1 : Nat → Int) : Nat → Value
  | 0 => .agg #[.int .i64 st, .slice (some ⟨ks, off2, none⟩) n2 cap2]
  | 1 => .slice (some ⟨296, 0, none⟩) l.length c1
  | 2 => .agg #[.slice (some ⟨100, off, none⟩) n cap, .int .i64 g, .int .i64 bx, .int .i64 tp, .int .i64 nr, .int .i64 md]
  | 3 => .agg #[.int .i64 st, .slice (some ⟨ks, off2, none⟩) n2 cap2]
  | 4 => .slice none 0 0
  | 5 => .slice (some ⟨296, 0, none⟩) l.length c1
  | 6 => .slice none 0 0
  | _ => .bool true
def x1Bk (L : List (Nat × Blk)) (bm bs : Blk) (ks : Nat) (off n cap off2 n2 cap2 : Nat) (g bx tp nr md st : Int) (l nl : List Pr) (c1 : Nat) (g1 : Nat → Int) : Nat → Blk
  | 1 => ⟨fa (3 * c1) .i64 g1, .ty 36⟩
  | _ => ⟨#[], .mp⟩
structure x1F (L : List (Nat × Blk)) (bm bs : Blk) (ks : Nat) (off n cap off2 n2 cap2 : Nat) (g bx tp nr md st : Int) (l nl : List Pr) (ts0 : Nat → Value) (hp0 : Hp) : Prop where
  e2 : ts0 2 = .pointer (some ⟨200, 0, none⟩)
  e3 : ts0 3 = .pointer (some ⟨208, 0, none⟩)
  b200 : hp0 200 = some (⟨#[.slice (some ⟨100, off, none⟩) n cap, .int .i64 g, .int .i64 bx, .int .i64 tp, .int .i64 nr, .int .i64 md], .ty 24⟩)
  b208 : hp0 208 = some (⟨#[.int .i64 st, .slice (some ⟨ks, off2, none⟩) n2 cap2], .ty 27⟩)
  low : ∀ k, k < 100 → hp0 k = G0 k
  bL : ∀ p ∈ L, hp0 p.1 = some p.2
theorem x1N1 : (x1N.map Prod.fst).Nodup := by decide +kernel
theorem x1N2 : (x1N.map Prod.snd).Nodup := by decide +kernel
theorem x1X1 : (x1X.map Prod.fst).Nodup := by decide +kernel
theorem x1X200 : ∀ k, k < 200 → k ∉ x1X.map Prod.snd := fun k hk => by simp [x1X]; try omega
def x2N : List (Nat × Nat) := [(0, 27), (1, 28), (2, 29), (3, 30), (4, 31), (5, 5), (6, 6)]
def x2X : List (Nat × Nat) := [(1, 296), (4, 320)]
def x2D : List (Nat × Nat) := [(5, 1), (6, 4)]
def x2V (L : List (Nat × Blk)) (bm bs : Blk) (ks : Nat) (off n cap off2 n2 cap2 : Nat) (g bx tp nr md st : Int) (l nl : List Pr) (c1 : Nat) (g1 : Nat → Int) (c2 : Nat) (g2 : Nat → Int) : Nat → Value
  | 0 => .agg #[.int .i64 st, .slice (some ⟨ks, off2, none⟩) n2 cap2]
  | 1 => .slice (some ⟨296, 0, none⟩) l.length c1
  | 2 => .agg #[.slice (some ⟨100, off, none⟩) n cap, .int .i64 g, .int .i64 bx, .int .i64 tp, .int .i64 nr, .int .i64 md]
  | 3 => .agg #[.int .i64 st, .slice (some ⟨ks, off2, none⟩) n2 cap2]
  | 4 => .slice (some ⟨320, 0, none⟩) nl.length c2
  | 5 => .slice (some ⟨296, 0, none⟩) l.length c1
  | 6 => .slice (some ⟨320, 0, none⟩) nl.length c2
  | _ => .bool true
def x2Bk (L : List (Nat × Blk)) (bm bs : Blk) (ks : Nat) (off n cap off2 n2 cap2 : Nat) (g bx tp nr md st : Int) (l nl : List Pr) (c1 : Nat) (g1 : Nat → Int) (c2 : Nat) (g2 : Nat → Int) : Nat → Blk
  | 1 => ⟨fa (3 * c1) .i64 g1, .ty 36⟩
  | 4 => ⟨fa (3 * c2) .i64 g2, .ty 36⟩
  | _ => ⟨#[], .mp⟩
structure x2F (L : List (Nat × Blk)) (bm bs : Blk) (ks : Nat) (off n cap off2 n2 cap2 : Nat) (g bx tp nr md st : Int) (l nl : List Pr) (ts0 : Nat → Value) (hp0 : Hp) : Prop where
  e2 : ts0 2 = .pointer (some ⟨200, 0, none⟩)
  e3 : ts0 3 = .pointer (some ⟨208, 0, none⟩)
  b200 : hp0 200 = some (⟨#[.slice (some ⟨100, off, none⟩) n cap, .int .i64 g, .int .i64 bx, .int .i64 tp, .int .i64 nr, .int .i64 md], .ty 24⟩)
  b208 : hp0 208 = some (⟨#[.int .i64 st, .slice (some ⟨ks, off2, none⟩) n2 cap2], .ty 27⟩)
  low : ∀ k, k < 100 → hp0 k = G0 k
  bL : ∀ p ∈ L, hp0 p.1 = some p.2
theorem x2N1 : (x2N.map Prod.fst).Nodup := by decide +kernel
theorem x2N2 : (x2N.map Prod.snd).Nodup := by decide +kernel
theorem x2X1 : (x2X.map Prod.fst).Nodup := by decide +kernel
theorem x2X200 : ∀ k, k < 200 → k ∉ x2X.map Prod.snd := fun k hk => by simp [x2X]; try omega
def neSt0 (L : List (Nat × Blk)) (ks off n cap off2 n2 cap2 : Nat) (g bx tp nr md st : Int) (l nl : List Pr) (c1 c2 : Nat) (g1 g2 : Nat → Int) (i : Nat) : GS :=
  ⟨tsL [(2, .pointer (some ⟨200, 0, none⟩)), (3, .pointer (some ⟨208, 0, none⟩)), (5, .slice none 0 0), (6, .slice none 0 0), (7, .int .i64 (cntN true nr l i)), (8, .int .i64 i)], hpL G0 ([(200, cfB (.slice (some ⟨100, off, none⟩) n cap) g bx tp nr md), (208, stB' st ks off2 n2 cap2)] ++ L), 900, 0⟩
def neSt1 (L : List (Nat × Blk)) (ks off n cap off2 n2 cap2 : Nat) (g bx tp nr md st : Int) (l nl : List Pr) (c1 c2 : Nat) (g1 g2 : Nat → Int) (i : Nat) : GS :=
  ⟨tsL [(2, .pointer (some ⟨200, 0, none⟩)), (3, .pointer (some ⟨208, 0, none⟩)), (5, .slice (some ⟨296, 0, none⟩) l.length c1), (6, .slice none 0 0), (7, .int .i64 (cntN true nr l i)), (8, .int .i64 i)], hpL G0 ([(200, cfB (.slice (some ⟨100, off, none⟩) n cap) g bx tp nr md), (208, stB' st ks off2 n2 cap2), (296, ⟨fa (3 * c1) .i64 g1, .ty 36⟩)] ++ L), 900, 0⟩
def neSt2 (L : List (Nat × Blk)) (ks off n cap off2 n2 cap2 : Nat) (g bx tp nr md st : Int) (l nl : List Pr) (c1 c2 : Nat) (g1 g2 : Nat → Int) (i : Nat) : GS :=
  ⟨tsL [(2, .pointer (some ⟨200, 0, none⟩)), (3, .pointer (some ⟨208, 0, none⟩)), (5, .slice (some ⟨296, 0, none⟩) l.length c1), (6, .slice (some ⟨320, 0, none⟩) nl.length c2), (7, .int .i64 (cntN true nr l i)), (8, .int .i64 i)], hpL G0 ([(200, cfB (.slice (some ⟨100, off, none⟩) n cap) g bx tp nr md), (208, stB' st ks off2 n2 cap2), (296, ⟨fa (3 * c1) .i64 g1, .ty 36⟩), (320, ⟨fa (3 * c2) .i64 g2, .ty 36⟩)] ++ L), 900, 0⟩
set_option maxRecDepth 8000 in
set_option maxHeartbeats 16000000 in
theorem NearExact_fun (L : List (Nat × Blk)) (ks : Nat) (bm bs : Blk) (hT : LTwo G0 L ks bm bs) (off n cap : Nat) (fm : Nat → Int) (hm : MB bm off n fm) (hcap : n ≤ cap) (off2 n2 cap2 : Nat) (fs : Nat → Int) (hSb : SB bs off2 n2 fs) (hcap2 : n2 ≤ cap2) (g bx tp nr md st : Int) (hg : i64 g) (hbx : i64 bx) (htp : i64 tp) (hnr : i64 nr) (hmd : i64 md) (hs : i64 st) :
    Fun Tryd.prog G0 3 #[cfV (.slice (some ⟨100, off, none⟩) n cap) g bx tp nr md, .agg #[.int .i64 st, .slice (some ⟨ks, off2, none⟩) n2 cap2]] (hpL G0 L) (keys L) (.ret (.bool true) []) := by
  refine fun_ofL (B := 200) G0F Tryd.func3 rfl Tryd.call3 hT.ok ?_ (by simp) (by simp) (by simp) (by simp [Tryd.ntmps3]) (by omega) ?_
  · simp [idsV, idsA, idsF, ids0, hT.ia, hT.ib, cfV]
  intro C hC hC0 hY
  have hrm := fun ρ => Blk.fx_rn hm.fx ρ
  have hrs := fun ρ => Blk.fx_rn hSb.fx ρ
  have hA := hT.a
  have hS := hT.s
  have hne := hT.ne
  have hLow := hT.low
  have hks := hT.k1
  have hks2 := hT.k2
  have hnn := hSb.nn
  have hck := chk11_fun bm off n cap fm hm g bx tp nr md
  unfold cfV
  cases ok : cfOk n fm g bx tp nr md with
  | false =>
    rw [ok] at hck
    simp only [Bool.false_eq_true, if_false] at hck
    repeat' (first | refine gwS ?_ | simp only [wN, wM, Nat.reduceAdd, Nat.reduceMul] | ((first | refine gwR [6, 7] ?_ | refine gwD [6, 7] ?_); intro Q hQ hP; simp [hC, hY, hA, hS, hne]; (repeat ((first | (refine heapK_mv hck G0F (B := 200) (oneL_ok hm.fx) (fun k => k) (fun k hk => rfl) (by simp [ren, renA, renF, ren0, cfV]) (by simp) (by simp [hrm, hA]) (by simp [keys]) (by simp [keys]; rfl) ?_)); try simp [hC, hY, hA, hS, hne])); (first | refine hQ _ _ _ _ (by kernel_rfl) ?_ | refine hP _ _ (by kernel_rfl) fun _ => ?_); clear hQ hP Q) | refine gwB ?_ | refine gwT ?_ | refine gwK ?_ | refine gwE ?_ | refine gwG ?_ | refine gwL ?_ | simp only [blockG_exit] | (refine gwC ?_ ?_ <;> (intro hb; first | (cases hb; done) | skip)))
    refine ⟨.inr rfl, by simp [Tryd.results3], keep_of G0F (by (intro p hp; have hpb := hT.ok.big p hp; first | rfl | (simp (disch := omega) only [addB, upd_other, hpL_cons, hpL_nil, if_neg, updL, List.cons_append, List.nil_append] <;> done))) (by (intro k hk; first | exact hLow k hk | (simp (disch := omega) only [hLow, addB, List.mem_cons, List.not_mem_nil, or_false, upd_other, hpL_cons, hpL_nil, if_neg, updL, List.cons_append, List.nil_append] <;> done)))⟩
  | true =>
  rw [ok] at hck
  simp only [if_true] at hck
  cases rt : rightB st fs n2 with
  | false =>
    repeat' (first | refine gwS ?_ | simp only [wN, wM, Nat.reduceAdd, Nat.reduceMul] | ((first | refine gwR [6, 7] ?_ | refine gwD [6, 7] ?_); intro Q hQ hP; simp [hC, hY, rt, hA, hS, hne]; (repeat ((first | (refine heapK_mv hck G0F (B := 200) (oneL_ok hm.fx) (fun k => k) (fun k hk => rfl) (by simp [ren, renA, renF, ren0, cfV]) (by simp) (by simp [hrm, hA]) (by simp [keys]) (by simp [keys]; rfl) ?_) | (refine heapK_mv (rig10_fun bs off2 n2 cap2 fs hSb st) G0F (B := 200) (oneL_ok hSb.fx) (fun k => if k = 100 then ks else k) (fun k hk => if_neg (by omega)) (by simp [ren, renA, renF, ren0]) (by simp) (by simp [hrs, hS, hne, hks]) (by simp [keys]) (by simp [keys]; rfl) ?_)); try simp [hC, hY, rt, hA, hS, hne])); (first | refine hQ _ _ _ _ (by kernel_rfl) ?_ | refine hP _ _ (by kernel_rfl) fun _ => ?_); clear hQ hP Q) | refine gwB ?_ | refine gwT ?_ | refine gwK ?_ | refine gwE ?_ | refine gwG ?_ | refine gwL ?_ | simp only [blockG_exit] | (refine gwC ?_ ?_ <;> (intro hb; first | (cases hb; done) | skip)))
    refine ⟨.inr rfl, by simp [Tryd.results3], keep_of G0F (by (intro p hp; have hpb := hT.ok.big p hp; first | rfl | (simp (disch := omega) only [addB, upd_other, hpL_cons, hpL_nil, if_neg, updL, List.cons_append, List.nil_append] <;> done))) (by (intro k hk; first | exact hLow k hk | (simp (disch := omega) only [hLow, addB, List.mem_cons, List.not_mem_nil, or_false, upd_other, hpL_cons, hpL_nil, if_neg, updL, List.cons_append, List.nil_append] <;> done)))⟩
  | true =>
  have pA := nPairs_at ks 296 hks (by omega) (by omega) bs off2 n2 cap2 fs hSb hcap2 st hs
  have pB := near_at 320 (by omega) L ks bm bs hT off n cap off2 n2 cap2 fm fs hm hSb hcap2 g bx tp nr md st hs
  have hnc := nCheck_L L ks bm bs hT off n cap off2 n2 cap2 fm fs hm hSb hcap2 g bx tp nr md st hs
  obtain ⟨hnr2, hnrr, hnis⟩ := near_isq ok
  obtain ⟨m1, m2, hm1, hm2, hm3⟩ := prs_count rt
  obtain ⟨hl1, hl2, hl3⟩ := ls_law (nr := nr) rt (ok := true) rfl hnrr
  rw [ok] at pB hnc
  rw [rt] at hnc
  have hat := fun i (hi : i < (prs st fs n2).length) => prs_at rt hi
  obtain ⟨l, hl⟩ : ∃ l, prs st fs n2 = l := ⟨_, rfl⟩
  rw [hl] at pA pB hnc hm3 hl1 hl2 hl3 hat
  obtain ⟨nl, hnl⟩ : ∃ nl, nearL true nr l = nl := ⟨_, rfl⟩
  rw [hnl] at pB hl2 hl3
  have hlv : LeastV l = .tuple #[.agg #[.int .i64 (lsAll l).1, .int .i64 (lsAll l).2.1, .int .i64 (lsAll l).2.2], .bool (decide (0 < l.length))] := by
    unfold LeastV prV
    rw [hl1]
  obtain ⟨⟨pa, pb, pq⟩, hp9⟩ : ∃ p, lsAll l = p := ⟨_, rfl⟩
  rw [hp9] at hlv hl2
  simp only at hlv hl2
  obtain ⟨w, hw9⟩ : ∃ w, nr * nr = w := ⟨_, rfl⟩
  rw [hw9] at hnrr hnis hl2
  have hnrw : Int.bmod (nr * nr) 18446744073709551616 = w := by rw [hw9]; exact hnrr
  repeat' (first | refine gwS ?_ | simp only [wN, wM, Nat.reduceAdd, Nat.reduceMul] | ((first | refine gwR [6, 7] ?_ | refine gwD [6, 7] ?_); intro Q hQ hP; simp [hC, hY, rt, hA, hS, hne]; (repeat ((first | (refine heapK_mv hck G0F (B := 200) (oneL_ok hm.fx) (fun k => k) (fun k hk => rfl) (by simp [ren, renA, renF, ren0, cfV]) (by simp) (by simp [hrm, hA]) (by simp [keys]) (by simp [keys]; rfl) ?_) | (refine heapK_mv (rig10_fun bs off2 n2 cap2 fs hSb st) G0F (B := 200) (oneL_ok hSb.fx) (fun k => if k = 100 then ks else k) (fun k hk => if_neg (by omega)) (by simp [ren, renA, renF, ren0]) (by simp) (by simp [hrs, hS, hne, hks]) (by simp [keys]) (by simp [keys]; rfl) ?_)); try simp [hC, hY, rt, hA, hS, hne])); (first | refine hQ _ _ _ _ (by kernel_rfl) ?_ | refine hP _ _ (by kernel_rfl) fun _ => ?_); clear hQ hP Q) | refine gwB ?_ | refine gwT ?_ | refine gwK ?_ | refine gwE ?_ | refine gwG ?_ | refine gwL ?_ | simp only [blockG_exit] | (refine gwC ?_ ?_ <;> (intro hb; first | (cases hb; done) | skip)))
  have hl6 := prs_len st fs n2
  rw [hl] at hl6
  have hl9 : l.length ≤ 2932031007402 := Nat.le_trans hl6 (by decide)
  by_cases hl0 : l.length = 0
  · have hn0 : nl.length = 0 := by
      rw [← hnl, List.length_eq_zero_iff.1 hl0]
      rfl
    refine GW_any follows ?_
    simp only [Array.toList, List.append_eq, List.cons_append, List.nil_append, List.length_cons, List.length_nil, Nat.reduceAdd]
    refine GA_gen (x0F L bm bs ks off n cap off2 n2 cap2 g bx tp nr md st l nl) ?_ ?_
    · refine ⟨by simp [cfB], by simp [cfB], by simp [cfB], by simp [cfB], ?_, ?_⟩
      · intro k hk
        simp (disch := omega) only [upd_other, updL, hpL_cons, hpL_nil, if_neg, hT.low]
      · intro p hp
        have hb := hT.ok.big p hp
        simp (disch := omega) only [upd_other, updL, hpL_cons, hpL_nil, if_neg]
        exact hT.mem p hp
    intro ts0 hp0 hF
    refine GA_ind (fun listed ts hp => TJ x0N x0X x0D (x0V L bm bs ks off n cap off2 n2 cap2 g bx tp nr md st l nl ) (x0Bk L bm bs ks off n cap off2 n2 cap2 g bx tp nr md st l nl ) ts0 hp0 listed ts hp) (fun listed ts hp szR rdR hI => ?_) (fun fuel listed ts hp i szR hi hdep h hk => ?_) _ _ _ _ (by simp) (by decide +kernel) ?_
    · have hall' := ready_nilB szR (by kernel_rfl) rdR
      have hall : ∀ i, i < 7 → listed[i]? = some true := fun i hi => hall' i (by simpa using hi)
      skip
      have k2 : ts 2 = .pointer (some ⟨200, 0, none⟩) := (hI.t0 2 (by decide)).trans hF.e2
      have k3 : ts 3 = .pointer (some ⟨208, 0, none⟩) := (hI.t0 3 (by decide)).trans hF.e3
      have k5 : ts 5 = .slice none 0 0 := hI.tm (5, 5) (by decide) (hall 5 (by omega))
      have k6 : ts 6 = .slice none 0 0 := hI.tm (6, 6) (by decide) (hall 6 (by omega))
      have c200 : hp 200 = some (⟨#[.slice (some ⟨100, off, none⟩) n cap, .int .i64 g, .int .i64 bx, .int .i64 tp, .int .i64 nr, .int .i64 md], .ty 24⟩) := (hI.ext (by decide)).trans hF.b200
      have c208 : hp 208 = some (⟨#[.int .i64 st, .slice (some ⟨ks, off2, none⟩) n2 cap2], .ty 27⟩) := (hI.ext (by decide)).trans hF.b208
      have cL : ∀ p ∈ L, hp p.1 = some p.2 := fun p hp => (hI.ext (x0X200 _ (hT.ok.big p hp).2)).trans (hF.bL p hp)
      have clow : ∀ k, k < 100 → hp k = G0 k := fun k hk => (hI.ext (x0X200 _ (by omega))).trans (hF.low k hk)
      simp only [thenG_normal]
      refine GW_weak (weakLL [(2, .pointer (some ⟨200, 0, none⟩)), (3, .pointer (some ⟨208, 0, none⟩)), (5, .slice none 0 0), (6, .slice none 0 0)] 344 hC G0F (m := [(200, cfB (.slice (some ⟨100, off, none⟩) n cap) g bx tp nr md), (208, stB' st ks off2 n2 cap2)]) hT.ok hT.fx hC0 (by omega) ?_ ?_ ?_) ?_
      · simp [k2, k3, k5, k6, idsV, idsA, idsF, ids0, dom]
      · simp [c200, c208, cfB, stB', ids_lit, idsF, ids0, dom, hA, hS, hne, Blk.fx_ids (fa_fx _ _ _)]
      · exact cL
      simp only [List.cons_append, List.nil_append]
      repeat' (first | refine gwS ?_ | simp only [wN, wM, Nat.reduceAdd, Nat.reduceMul] | ((first | refine gwR [] ?_ | refine gwD [] ?_); intro Q hQ hP; simp [hC, hY, hA, hS, hne]; (first | refine hQ _ _ _ _ (by kernel_rfl) ?_ | refine hP _ _ (by kernel_rfl) fun _ => ?_); clear hQ hP Q) | refine gwB ?_ | refine gwT ?_ | refine gwK ?_ | refine gwE ?_ | refine gwG ?_ | refine gwL ?_ | simp only [blockG_exit] | (refine gwC ?_ ?_ <;> (intro hb; first | (cases hb; done) | skip)))
      refine GW_for l.length (neSt0 L ks off n cap off2 n2 cap2 g bx tp nr md st l nl 0 0 (fun _ => 0) (fun _ => 0)) ?_ ?_ ?_
      · refine weakLL _ 900 hC G0F hT.ok hT.fx hC0 (by omega) ?_ ?_ ?_
        · simp [idsV, idsA, idsF, ids0, dom, cnt_0]
        · simp [cfB, stB', ids_lit, idsF, ids0, dom, hA, hS, hne, Blk.fx_ids (fa_fx _ _ _)]
        · (intro p hp; have hpb := hT.ok.big p hp; (try dsimp only); simp (disch := omega) only [addB, upd_other, hpL_cons, hpL_nil, if_neg, updL, List.cons_append, List.nil_append]; first | exact hT.mem p hp | exact cL p hp)
      · intro i hi
        exact absurd hi (by rw [hl0]; exact Nat.not_lt_zero _)
      ·
        have hnc2 := hnc
        unfold nkE at hnc
        rw [hl3] at hnc
        rw [decide_eq_false (by rw [hl0]; exact Nat.lt_irrefl 0)] at hlv
        have hls := least_fun bs off2 n2 cap2 fs hSb hcap2 st hs
        rw [hl, hlv] at hls
        rw [decide_eq_false (by rw [hn0]; exact Nat.lt_irrefl 0)] at hnc
        simp only [Bool.false_eq_true, if_false, if_true] at hnc
        unfold neSt0 stB' cfB
        repeat' (first | refine gwS ?_ | simp only [wN, wM, Nat.reduceAdd, Nat.reduceMul] | ((first | refine gwR [12, 13] ?_ | refine gwD [12, 13] ?_); intro Q hQ hP; simp [hC, hY, hA, hS, hne, hm1, hm2, hm3, hnrw, hn0, hl0, cnt_0]; (repeat ((first | (refine heapK_mv hls G0F (B := 200) (oneL_ok hSb.fx) (fun k => if k = 100 then ks else k) (fun k hk => if_neg (by omega)) (by simp [ren, renA, renF, ren0]) (by simp) (by simp [hrs, hS, hne, hks]) (by simp [keys]) (by simp [keys]; rfl) ?_) | (refine heapK_L hnc hT.ok (by (intro p hp; have hpb := hT.ok.big p hp; (try dsimp only); simp (disch := omega) only [addB, upd_other, hpL_cons, hpL_nil, if_neg, updL, List.cons_append, List.nil_append]; first | exact hT.mem p hp | exact cL p hp)) ?_)); try simp [hC, hY, hA, hS, hne, hm1, hm2, hm3, hnrw, hn0, hl0, cnt_0])); (first | refine hQ _ _ _ _ (by kernel_rfl) ?_ | refine hP _ _ (by kernel_rfl) fun _ => ?_); clear hQ hP Q) | refine gwB ?_ | refine gwT ?_ | refine gwK ?_ | refine gwE ?_ | refine gwG ?_ | refine gwL ?_ | simp only [blockG_exit] | (refine gwC ?_ ?_ <;> (intro hb; first | (cases hb; done) | skip)))
        refine ⟨.inr rfl, by simp [Tryd.results3], keep_of G0F (by (intro p hp; have hpb := hT.ok.big p hp; first | rfl | (simp (disch := omega) only [addB, upd_other, hpL_cons, hpL_nil, if_neg, updL, List.cons_append, List.nil_append] <;> done))) (by (intro k hk; first | exact hLow k hk | (simp (disch := omega) only [hLow, addB, List.mem_cons, List.not_mem_nil, or_false, upd_other, hpL_cons, hpL_nil, if_neg, updL, List.cons_append, List.nil_append] <;> done)))⟩
    · have hlt : i < 7 := by
        have := (Array.getElem?_eq_some_iff.1 hi).1
        rw [szR] at this
        simpa using this
      skip
      obtain rfl | rfl | rfl | rfl | rfl | rfl | rfl : i = 0 ∨ i = 1 ∨ i = 2 ∨ i = 3 ∨ i = 4 ∨ i = 5 ∨ i = 6 := by omega
      · -- 0
        have vx3 : ts 3 = .pointer (some ⟨208, 0, none⟩) := (h.t0 3 (by decide)).trans hF.e3
        have y208 : hp 208 = some (⟨#[.int .i64 st, .slice (some ⟨ks, off2, none⟩) n2 cap2], .ty 27⟩) := (h.ext (by decide)).trans hF.b208
        refine GO_walk [] rfl (by kernel_rfl) (by first | assumption | simp) ?_; intro q hq; simp [hC, hY, vx3, y208]; refine hq _ _ _ _ ?_; clear hq q
        exact hk _ _ (h.tmp x0N1 x0N2 hi (by simp [x0D]) (i := 0) (t := 27) (by decide) rfl (by decide))
      · -- 1
        have hd0 := hdep _ rfl
        simp [Region.binds] at hd0
        have d0 : listed[0]? = some true := by simp [hd0]
        have vf0 : ts 27 = .agg #[.int .i64 st, .slice (some ⟨ks, off2, none⟩) n2 cap2] := h.tm (0, 27) (by decide) d0
        have low : ∀ k, k < 100 → hp k = G0 k := fun k hk => (h.ext (x0X200 _ (by omega))).trans (hF.low k hk)
        have cL : ∀ p ∈ L, hp p.1 = some p.2 := fun p hp => (h.ext (x0X200 _ (hT.ok.big p hp).2)).trans (hF.bL p hp)
        refine GO_callG (f := .func 9) (cap := #[]) hC pA rfl hi (by simp [wantedG]) (by simp [Tryd.ntmps3]) rfl rfl (by simp [okT]) (by simp [gev]) (by simp) (by simp [okX, junk, vf0]) (by simp [gev, cfV, vf0]) (by simp [cL _ hT.kb]) (fun q hq => (low q hq).symm ▸ (by simp (disch := omega) only [hpL_cons, hpL_nil, if_neg])) ?_ ?_
        · intro v ns hV k hk
          rw [prR_key hV k hk]
          omega
        rintro v ns (⟨_, rfl, rfl⟩ | ⟨c', g', h9, _⟩)
        · exact hk _ _ (h.tmp x0N1 x0N2 hi (by simp [x0D, d0]) (i := 1) (t := 28) (by decide) rfl (by decide))
        · exact absurd h9 (by rw [hl0]; exact Nat.lt_irrefl 0)
      · -- 2
        have vx2 : ts 2 = .pointer (some ⟨200, 0, none⟩) := (h.t0 2 (by decide)).trans hF.e2
        have y200 : hp 200 = some (⟨#[.slice (some ⟨100, off, none⟩) n cap, .int .i64 g, .int .i64 bx, .int .i64 tp, .int .i64 nr, .int .i64 md], .ty 24⟩) := (h.ext (by decide)).trans hF.b200
        refine GO_walk [] rfl (by kernel_rfl) (by first | assumption | simp) ?_; intro q hq; simp [hC, hY, vx2, y200]; refine hq _ _ _ _ ?_; clear hq q
        exact hk _ _ (h.tmp x0N1 x0N2 hi (by simp [x0D]) (i := 2) (t := 29) (by decide) rfl (by decide))
      · -- 3
        have vx3 : ts 3 = .pointer (some ⟨208, 0, none⟩) := (h.t0 3 (by decide)).trans hF.e3
        have y208 : hp 208 = some (⟨#[.int .i64 st, .slice (some ⟨ks, off2, none⟩) n2 cap2], .ty 27⟩) := (h.ext (by decide)).trans hF.b208
        refine GO_walk [] rfl (by kernel_rfl) (by first | assumption | simp) ?_; intro q hq; simp [hC, hY, vx3, y208]; refine hq _ _ _ _ ?_; clear hq q
        exact hk _ _ (h.tmp x0N1 x0N2 hi (by simp [x0D]) (i := 3) (t := 30) (by decide) rfl (by decide))
      · -- 4
        have hd0 := hdep _ rfl
        simp [Region.binds] at hd0
        have d2 : listed[2]? = some true := by simp [hd0]
        have d3 : listed[3]? = some true := by simp [hd0]
        have vf2 : ts 29 = .agg #[.slice (some ⟨100, off, none⟩) n cap, .int .i64 g, .int .i64 bx, .int .i64 tp, .int .i64 nr, .int .i64 md] := h.tm (2, 29) (by decide) d2
        have vf3 : ts 30 = .agg #[.int .i64 st, .slice (some ⟨ks, off2, none⟩) n2 cap2] := h.tm (3, 30) (by decide) d3
        have low : ∀ k, k < 100 → hp k = G0 k := fun k hk => (h.ext (x0X200 _ (by omega))).trans (hF.low k hk)
        have cL : ∀ p ∈ L, hp p.1 = some p.2 := fun p hp => (h.ext (x0X200 _ (hT.ok.big p hp).2)).trans (hF.bL p hp)
        refine GO_callG (f := .func 10) (cap := #[]) hC pB rfl hi (by simp [wantedG]) (by simp [Tryd.ntmps3]) rfl rfl (by simp [okT]) (by simp [gev]) (by simp) (by simp [okX, junk, vf2, vf3]) (by simp [gev, cfV, vf2, vf3]) (fun q hq => by obtain ⟨p, hp, rfl⟩ := mem_keys.1 hq; exact (hT.mem p hp).trans (cL p hp).symm) (fun q hq => (low q hq).symm ▸ hT.low q hq) ?_ ?_
        · intro v ns hV k hk
          rw [prR_key hV k hk]
          omega
        rintro v ns (⟨_, rfl, rfl⟩ | ⟨c', g', h9, _⟩)
        · exact hk _ _ (h.tmp x0N1 x0N2 hi (by simp [x0D, d2, d3]) (i := 4) (t := 31) (by decide) rfl (by decide))
        · exact absurd h9 (by rw [hn0]; exact Nat.lt_irrefl 0)
      · -- 5
        have hd0 := hdep _ rfl
        simp [Region.binds] at hd0
        have d1 : listed[1]? = some true := by simp [hd0]
        have vf1 : ts 28 = .slice none 0 0 := h.tm (1, 28) (by decide) d1
        refine GO_walk [] rfl (by kernel_rfl) (by first | assumption | simp) ?_; intro q hq; simp [hC, hY, vf1]; refine hq _ _ _ _ ?_; clear hq q
        exact hk _ _ (h.tmp x0N1 x0N2 hi (by simp [x0D, d1]) (i := 5) (t := 5) (by decide) rfl (by decide))
      · -- 6
        have hd0 := hdep _ rfl
        simp [Region.binds] at hd0
        have d4 : listed[4]? = some true := by simp [hd0]
        have vf4 : ts 31 = .slice none 0 0 := h.tm (4, 31) (by decide) d4
        refine GO_walk [] rfl (by kernel_rfl) (by first | assumption | simp) ?_; intro q hq; simp [hC, hY, vf4]; refine hq _ _ _ _ ?_; clear hq q
        exact hk _ _ (h.tmp x0N1 x0N2 hi (by simp [x0D, d4]) (i := 6) (t := 6) (by decide) rfl (by decide))
    · have hno : ∀ j : Nat, (Array.replicate 7 false)[j]? ≠ some true := fun j => by
        rw [Array.getElem?_replicate]
        split <;> simp
      exact TJ.start hno
  have hpos : 0 < l.length := Nat.pos_of_ne_zero hl0
  by_cases hn0 : nl.length = 0
  ·
    refine GW_any follows ?_
    simp only [Array.toList, List.append_eq, List.cons_append, List.nil_append, List.length_cons, List.length_nil, Nat.reduceAdd]
    refine GA_gen (x1F L bm bs ks off n cap off2 n2 cap2 g bx tp nr md st l nl) ?_ ?_
    · refine ⟨by simp [cfB], by simp [cfB], by simp [cfB], by simp [cfB], ?_, ?_⟩
      · intro k hk
        simp (disch := omega) only [upd_other, updL, hpL_cons, hpL_nil, if_neg, hT.low]
      · intro p hp
        have hb := hT.ok.big p hp
        simp (disch := omega) only [upd_other, updL, hpL_cons, hpL_nil, if_neg]
        exact hT.mem p hp
    intro ts0 hp0 hF
    refine GA_ind (fun listed ts hp => ∃ c1 g1, (l.length ≤ c1 ∧ (∀ j, j < 3 * l.length → g1 j = pF l j)) ∧ TJ x1N x1X x1D (x1V L bm bs ks off n cap off2 n2 cap2 g bx tp nr md st l nl c1 g1) (x1Bk L bm bs ks off n cap off2 n2 cap2 g bx tp nr md st l nl c1 g1) ts0 hp0 listed ts hp) (fun listed ts hp szR rdR hI => ?_) (fun fuel listed ts hp i szR hi hdep h hk => ?_) _ _ _ _ (by simp) (by decide +kernel) ?_
    · have hall' := ready_nilB szR (by kernel_rfl) rdR
      have hall : ∀ i, i < 7 → listed[i]? = some true := fun i hi => hall' i (by simpa using hi)
      obtain ⟨c1, g1, hinv, hI⟩ := hI
      have k2 : ts 2 = .pointer (some ⟨200, 0, none⟩) := (hI.t0 2 (by decide)).trans hF.e2
      have k3 : ts 3 = .pointer (some ⟨208, 0, none⟩) := (hI.t0 3 (by decide)).trans hF.e3
      have k5 : ts 5 = .slice (some ⟨296, 0, none⟩) l.length c1 := hI.tm (5, 5) (by decide) (hall 5 (by omega))
      have k6 : ts 6 = .slice none 0 0 := hI.tm (6, 6) (by decide) (hall 6 (by omega))
      have c200 : hp 200 = some (⟨#[.slice (some ⟨100, off, none⟩) n cap, .int .i64 g, .int .i64 bx, .int .i64 tp, .int .i64 nr, .int .i64 md], .ty 24⟩) := (hI.ext (by decide)).trans hF.b200
      have c208 : hp 208 = some (⟨#[.int .i64 st, .slice (some ⟨ks, off2, none⟩) n2 cap2], .ty 27⟩) := (hI.ext (by decide)).trans hF.b208
      have c296 : hp 296 = some (⟨fa (3 * c1) .i64 g1, .ty 36⟩) := hI.bx (1, 296) (by decide) (hall 1 (by omega)) (by simp [x1X])
      have cL : ∀ p ∈ L, hp p.1 = some p.2 := fun p hp => (hI.ext (x1X200 _ (hT.ok.big p hp).2)).trans (hF.bL p hp)
      have clow : ∀ k, k < 100 → hp k = G0 k := fun k hk => (hI.ext (x1X200 _ (by omega))).trans (hF.low k hk)
      simp only [thenG_normal]
      refine GW_weak (weakLL [(2, .pointer (some ⟨200, 0, none⟩)), (3, .pointer (some ⟨208, 0, none⟩)), (5, .slice (some ⟨296, 0, none⟩) l.length c1), (6, .slice none 0 0)] 344 hC G0F (m := [(200, cfB (.slice (some ⟨100, off, none⟩) n cap) g bx tp nr md), (208, stB' st ks off2 n2 cap2), (296, ⟨fa (3 * c1) .i64 g1, .ty 36⟩)]) hT.ok hT.fx hC0 (by omega) ?_ ?_ ?_) ?_
      · simp [k2, k3, k5, k6, idsV, idsA, idsF, ids0, dom]
      · simp [c200, c208, c296, cfB, stB', ids_lit, idsF, ids0, dom, hA, hS, hne, Blk.fx_ids (fa_fx _ _ _)]
      · exact cL
      obtain ⟨q11, q12⟩ := hinv
      simp only [List.cons_append, List.nil_append]
      repeat' (first | refine gwS ?_ | simp only [wN, wM, Nat.reduceAdd, Nat.reduceMul] | ((first | refine gwR [] ?_ | refine gwD [] ?_); intro Q hQ hP; simp [hC, hY, hA, hS, hne]; (first | refine hQ _ _ _ _ (by kernel_rfl) ?_ | refine hP _ _ (by kernel_rfl) fun _ => ?_); clear hQ hP Q) | refine gwB ?_ | refine gwT ?_ | refine gwK ?_ | refine gwE ?_ | refine gwG ?_ | refine gwL ?_ | simp only [blockG_exit] | (refine gwC ?_ ?_ <;> (intro hb; first | (cases hb; done) | skip)))
      refine GW_for l.length (neSt1 L ks off n cap off2 n2 cap2 g bx tp nr md st l nl c1 0 g1 (fun _ => 0)) ?_ ?_ ?_
      · refine weakLL _ 900 hC G0F hT.ok hT.fx hC0 (by omega) ?_ ?_ ?_
        · simp [idsV, idsA, idsF, ids0, dom, cnt_0]
        · simp [cfB, stB', ids_lit, idsF, ids0, dom, hA, hS, hne, Blk.fx_ids (fa_fx _ _ _)]
        · (intro p hp; have hpb := hT.ok.big p hp; (try dsimp only); simp (disch := omega) only [addB, upd_other, hpL_cons, hpL_nil, if_neg, updL, List.cons_append, List.nil_append]; first | exact hT.mem p hp | exact cL p hp)
      · intro i hi
        obtain ⟨a, b, hab, hbn, he⟩ := hat i hi
        obtain ⟨p0, p1, p2⟩ := pF_at he
        simp only [prOf] at p0 p1 p2
        obtain ⟨d0, d1, d2, e0, e1, e2, s1, D0, D1, D2, E0, E1, E2, Z0, S1, S2, Q0, Q1⟩ := sq_parts rt (a := a) (b := b) (Nat.lt_trans hab hbn) hbn
        have X0 := hSb.int (i := a) (Nat.lt_trans hab hbn) (q := 0) (by decide)
        have X1 := hSb.int (i := a) (Nat.lt_trans hab hbn) (q := 1) (by decide)
        have X2 := hSb.int (i := a) (Nat.lt_trans hab hbn) (q := 2) (by decide)
        have Y0 := hSb.int (i := b) hbn (q := 0) (by decide)
        have Y1 := hSb.int (i := b) hbn (q := 1) (by decide)
        have Y2 := hSb.int (i := b) hbn (q := 2) (by decide)
        simp only [Nat.add_zero] at X0 Y0
        obtain ⟨q, hq⟩ : ∃ q, sqF fs a b = q := ⟨_, rfl⟩
        rw [hq] at p2 S2 Q0 Q1
        obtain ⟨r, h, r1, rr, nn, wr0, wr1, wr2, wr3, wr4, wr5, wr6, wr7, wr8, wr9, wr10, hcase⟩ := way_law Q0 Q1
        have hnb : nearB true nr (pF l (3 * i + 2)) = decide (r < nr) := by
          rw [p2]
          unfold nearB
          rw [hw9, hnrr, Bool.true_and, Bool.eq_iff_iff, decide_eq_true_eq, decide_eq_true_eq, ← wr0]
          exact hnis q Q0
        have hq64 : i64 q := ne_i64 Q0 Q1
        have hld := psr_ld (g := g1) q11 hi
        rw [q12 _ (ne_lt0 hi), q12 _ (ne_lt (u := 1) hi (by decide)), q12 _ (ne_lt (u := 2) hi (by decide)), p0, p1, p2] at hld
        have hi1 : (i : Int) < l.length := Int.ofNat_lt.2 hi
        have hz : (0 : Int) ≤ i := Int.natCast_nonneg i
        have hs' := succ_bm hi hl9
        have ha0 : (0 : Int) ≤ a := Int.natCast_nonneg a
        have hb0 : (0 : Int) ≤ b := Int.natCast_nonneg b
        have ha1 : (a : Int) < n2 := Int.ofNat_lt.2 (Nat.lt_trans hab hbn)
        have hb1 : (b : Int) < n2 := Int.ofNat_lt.2 hbn
        have ha2 : ¬ (a : Int) < 0 := Int.not_lt.2 ha0
        have hba : ¬ (b : Int) ≤ a := Int.not_le.2 (Int.ofNat_lt.2 hab)
        have hbm : ¬ (n2 : Int) ≤ b := Int.not_le.2 hb1
        have hba' : ¬ b ≤ a := Nat.not_le.2 hab
        have hbm' : ¬ n2 ≤ b := Nat.not_le.2 hbn
        have hab' : a < n2 := Nat.lt_trans hab hbn
        obtain ⟨k, hk⟩ : ∃ k, cntN true nr l i = k := ⟨_, rfl⟩
        cases hqn : nearB true nr (pF l (3 * i + 2)) with
        | true =>
          have := cnt_lt hi hqn
          rw [hnl, hn0] at this
          exact absurd this (Nat.not_lt_zero _)
        | false =>
          have hct := cnt_f hi hqn
          rw [hk] at hct
          have hqr : ¬ r < nr := by rw [hnb, decide_eq_false_iff_not] at hqn; exact hqn
          have hk00 : k = 0 := by
            have := cnt_len (ok := true) (nr := nr) (l := l) (i := i) (Nat.le_of_lt hi)
            rw [hk, hnl, hn0] at this
            exact Nat.le_zero.1 this
          rcases hcase with ⟨rfl, rfl, rfl⟩ | ⟨hc1, hc2, hc3⟩
          ·
            unfold neSt1 stB' cfB
            repeat' (first | refine gwS ?_ | refine GWL_start ?_ | refine GWL_step ?_ | simp only [wN, wM, Nat.reduceAdd, Nat.reduceMul] | ((first | refine gwR [] ?_ | refine gwD [] ?_); intro Q hQ hP; simp [hC, hY, hA, hS, hne, hi1, hi, hz, hs', hld, X0, X1, X2, Y0, Y1, Y2, D0, D1, D2, E0, E1, E2, Z0, S1, S2, hq64, wr1, wr2, wr3, wr4, wr5, wr6, wr7, wr8, wr9, wr10, ha0, hb0, ha1, hb1, ha2, hba, hbm, hba', hbm', hab', hbn, hk, hqr, hk00]; (first | refine hQ _ _ _ _ (by rcases hT.k8 with h8 | h8 <;> subst h8 <;> kernel_rfl) ?_ | refine hP _ _ (by rcases hT.k8 with h8 | h8 <;> subst h8 <;> kernel_rfl) fun _ => ?_); clear hQ hP Q) | refine gwB ?_ | refine gwT ?_ | refine gwK ?_ | refine gwE ?_ | refine gwG ?_ | refine gwL ?_ | simp only [blockG_exit] | (refine gwC ?_ ?_ <;> (intro hb; first | (cases hb; done) | skip)))
            refine weakLL _ 900 hC G0F hT.ok hT.fx hC0 (by omega) ?_ ?_ ?_
            · simp [idsV, idsA, idsF, ids0, dom, hs', hct, hk, hk00]
            · simp [cfB, stB', ids_lit, idsF, ids0, dom, hA, hS, hne, Blk.fx_ids (fa_fx _ _ _)]
            · (intro p hp; have hpb := hT.ok.big p hp; (try dsimp only); simp (disch := omega) only [addB, upd_other, hpL_cons, hpL_nil, if_neg, updL, List.cons_append, List.nil_append]; first | exact hT.mem p hp | exact cL p hp)
          ·
            unfold neSt1 stB' cfB
            repeat' (first | refine gwS ?_ | refine GWL_start ?_ | refine GWL_step ?_ | simp only [wN, wM, Nat.reduceAdd, Nat.reduceMul] | ((first | refine gwR [] ?_ | refine gwD [] ?_); intro Q hQ hP; simp [hC, hY, hA, hS, hne, hi1, hi, hz, hs', hld, X0, X1, X2, Y0, Y1, Y2, D0, D1, D2, E0, E1, E2, Z0, S1, S2, hq64, wr1, wr2, wr3, wr4, wr5, wr6, wr7, wr8, wr9, wr10, ha0, hb0, ha1, hb1, ha2, hba, hbm, hba', hbm', hab', hbn, hk, hqr, hk00, hc1, hc2, hc3]; (first | refine hQ _ _ _ _ (by rcases hT.k8 with h8 | h8 <;> subst h8 <;> kernel_rfl) ?_ | refine hP _ _ (by rcases hT.k8 with h8 | h8 <;> subst h8 <;> kernel_rfl) fun _ => ?_); clear hQ hP Q) | refine gwB ?_ | refine gwT ?_ | refine gwK ?_ | refine gwE ?_ | refine gwG ?_ | refine gwL ?_ | simp only [blockG_exit] | (refine gwC ?_ ?_ <;> (intro hb; first | (cases hb; done) | skip)))
            refine weakLL _ 900 hC G0F hT.ok hT.fx hC0 (by omega) ?_ ?_ ?_
            · simp [idsV, idsA, idsF, ids0, dom, hs', hct, hk, hk00]
            · simp [cfB, stB', ids_lit, idsF, ids0, dom, hA, hS, hne, Blk.fx_ids (fa_fx _ _ _)]
            · (intro p hp; have hpb := hT.ok.big p hp; (try dsimp only); simp (disch := omega) only [addB, upd_other, hpL_cons, hpL_nil, if_neg, updL, List.cons_append, List.nil_append]; first | exact hT.mem p hp | exact cL p hp)
      ·
        have hnc2 := hnc
        unfold nkE at hnc
        rw [hl3] at hnc
        rw [decide_eq_true hpos] at hlv
        have hls := least_fun bs off2 n2 cap2 fs hSb hcap2 st hs
        rw [hl, hlv] at hls
        rw [decide_eq_false (by rw [hn0]; exact Nat.lt_irrefl 0)] at hnc
        simp only [Bool.false_eq_true, if_false, if_true] at hnc
        have hpos2 : (0 : Int) < l.length := Int.ofNat_lt.2 hpos
        have hpos3 : ¬ l.length = 0 := Nat.ne_of_gt hpos
        have hcl : cntN true nr l l.length = nl.length := by rw [cnt_all, hnl]
        unfold neSt1 stB' cfB
        repeat' (first | refine gwS ?_ | simp only [wN, wM, Nat.reduceAdd, Nat.reduceMul] | ((first | refine gwR [12, 13] ?_ | refine gwD [12, 13] ?_); intro Q hQ hP; simp [hC, hY, hA, hS, hne, hm1, hm2, hm3, hnrw, hpos, hpos2, hpos3, hn0, hcl]; (repeat ((first | (refine heapK_mv hls G0F (B := 200) (oneL_ok hSb.fx) (fun k => if k = 100 then ks else k) (fun k hk => if_neg (by omega)) (by simp [ren, renA, renF, ren0]) (by simp) (by simp [hrs, hS, hne, hks]) (by simp [keys]) (by simp [keys]; rfl) ?_) | (refine heapK_L hnc hT.ok (by (intro p hp; have hpb := hT.ok.big p hp; (try dsimp only); simp (disch := omega) only [addB, upd_other, hpL_cons, hpL_nil, if_neg, updL, List.cons_append, List.nil_append]; first | exact hT.mem p hp | exact cL p hp)) ?_)); try simp [hC, hY, hA, hS, hne, hm1, hm2, hm3, hnrw, hpos, hpos2, hpos3, hn0, hcl])); (first | refine hQ _ _ _ _ (by kernel_rfl) ?_ | refine hP _ _ (by kernel_rfl) fun _ => ?_); clear hQ hP Q) | refine gwB ?_ | refine gwT ?_ | refine gwK ?_ | refine gwE ?_ | refine gwG ?_ | refine gwL ?_ | simp only [blockG_exit] | (refine gwC ?_ ?_ <;> (intro hb; first | (cases hb; done) | skip)))
        refine ⟨.inr rfl, by simp [Tryd.results3], keep_of G0F (by (intro p hp; have hpb := hT.ok.big p hp; first | rfl | (simp (disch := omega) only [addB, upd_other, hpL_cons, hpL_nil, if_neg, updL, List.cons_append, List.nil_append] <;> done))) (by (intro k hk; first | exact hLow k hk | (simp (disch := omega) only [hLow, addB, List.mem_cons, List.not_mem_nil, or_false, upd_other, hpL_cons, hpL_nil, if_neg, updL, List.cons_append, List.nil_append] <;> done)))⟩
    · have hlt : i < 7 := by
        have := (Array.getElem?_eq_some_iff.1 hi).1
        rw [szR] at this
        simpa using this
      obtain ⟨c1, g1, hinv, h⟩ := h
      obtain rfl | rfl | rfl | rfl | rfl | rfl | rfl : i = 0 ∨ i = 1 ∨ i = 2 ∨ i = 3 ∨ i = 4 ∨ i = 5 ∨ i = 6 := by omega
      · -- 0
        have vx3 : ts 3 = .pointer (some ⟨208, 0, none⟩) := (h.t0 3 (by decide)).trans hF.e3
        have y208 : hp 208 = some (⟨#[.int .i64 st, .slice (some ⟨ks, off2, none⟩) n2 cap2], .ty 27⟩) := (h.ext (by decide)).trans hF.b208
        refine GO_walk [] rfl (by kernel_rfl) (by first | assumption | simp) ?_; intro q hq; simp [hC, hY, vx3, y208]; refine hq _ _ _ _ ?_; clear hq q
        exact hk _ _ ⟨c1, g1, hinv, (h.tmp x1N1 x1N2 hi (by simp [x1D]) (i := 0) (t := 27) (by decide) rfl (by decide))⟩
      · -- 1
        have hd0 := hdep _ rfl
        simp [Region.binds] at hd0
        have d0 : listed[0]? = some true := by simp [hd0]
        have vf0 : ts 27 = .agg #[.int .i64 st, .slice (some ⟨ks, off2, none⟩) n2 cap2] := h.tm (0, 27) (by decide) d0
        have low : ∀ k, k < 100 → hp k = G0 k := fun k hk => (h.ext (x1X200 _ (by omega))).trans (hF.low k hk)
        have cL : ∀ p ∈ L, hp p.1 = some p.2 := fun p hp => (h.ext (x1X200 _ (hT.ok.big p hp).2)).trans (hF.bL p hp)
        refine GO_callG (f := .func 9) (cap := #[]) hC pA rfl hi (by simp [wantedG]) (by simp [Tryd.ntmps3]) rfl rfl (by simp [okT]) (by simp [gev]) (by simp) (by simp [okX, junk, vf0]) (by simp [gev, cfV, vf0]) (by simp [cL _ hT.kb]) (fun q hq => (low q hq).symm ▸ (by simp (disch := omega) only [hpL_cons, hpL_nil, if_neg])) ?_ ?_
        · intro v ns hV k hk
          rw [prR_key hV k hk]
          omega
        rintro v ns (⟨h9, _⟩ | ⟨c', g', _, u1, u2, rfl, rfl⟩)
        · exact absurd h9 (Nat.ne_of_gt hpos)
        have h := h.chg (V' := x1V L bm bs ks off n cap off2 n2 cap2 g bx tp nr md st l nl c' g') (Bk' := x1Bk L bm bs ks off n cap off2 n2 cap2 g bx tp nr md st l nl c' g') hi (fun j hj hD => by unfold x1V; split <;> first | rfl | exact absurd rfl hj | exact (hD (by decide)).elim) (fun j hj hD => by unfold x1Bk; split <;> first | rfl | exact absurd rfl hj | exact (hD (by decide)).elim)
        obtain ⟨q11, q12⟩ := hinv
        exact hk _ _ ⟨c', g', ⟨u1, u2⟩, h.new x1N1 x1N2 x1X1 hi (by simp [x1D]) (i := 1) (t := 28) (k := 296) (by decide) rfl (by decide) rfl (by decide)⟩
      · -- 2
        have vx2 : ts 2 = .pointer (some ⟨200, 0, none⟩) := (h.t0 2 (by decide)).trans hF.e2
        have y200 : hp 200 = some (⟨#[.slice (some ⟨100, off, none⟩) n cap, .int .i64 g, .int .i64 bx, .int .i64 tp, .int .i64 nr, .int .i64 md], .ty 24⟩) := (h.ext (by decide)).trans hF.b200
        refine GO_walk [] rfl (by kernel_rfl) (by first | assumption | simp) ?_; intro q hq; simp [hC, hY, vx2, y200]; refine hq _ _ _ _ ?_; clear hq q
        exact hk _ _ ⟨c1, g1, hinv, (h.tmp x1N1 x1N2 hi (by simp [x1D]) (i := 2) (t := 29) (by decide) rfl (by decide))⟩
      · -- 3
        have vx3 : ts 3 = .pointer (some ⟨208, 0, none⟩) := (h.t0 3 (by decide)).trans hF.e3
        have y208 : hp 208 = some (⟨#[.int .i64 st, .slice (some ⟨ks, off2, none⟩) n2 cap2], .ty 27⟩) := (h.ext (by decide)).trans hF.b208
        refine GO_walk [] rfl (by kernel_rfl) (by first | assumption | simp) ?_; intro q hq; simp [hC, hY, vx3, y208]; refine hq _ _ _ _ ?_; clear hq q
        exact hk _ _ ⟨c1, g1, hinv, (h.tmp x1N1 x1N2 hi (by simp [x1D]) (i := 3) (t := 30) (by decide) rfl (by decide))⟩
      · -- 4
        have hd0 := hdep _ rfl
        simp [Region.binds] at hd0
        have d2 : listed[2]? = some true := by simp [hd0]
        have d3 : listed[3]? = some true := by simp [hd0]
        have vf2 : ts 29 = .agg #[.slice (some ⟨100, off, none⟩) n cap, .int .i64 g, .int .i64 bx, .int .i64 tp, .int .i64 nr, .int .i64 md] := h.tm (2, 29) (by decide) d2
        have vf3 : ts 30 = .agg #[.int .i64 st, .slice (some ⟨ks, off2, none⟩) n2 cap2] := h.tm (3, 30) (by decide) d3
        have low : ∀ k, k < 100 → hp k = G0 k := fun k hk => (h.ext (x1X200 _ (by omega))).trans (hF.low k hk)
        have cL : ∀ p ∈ L, hp p.1 = some p.2 := fun p hp => (h.ext (x1X200 _ (hT.ok.big p hp).2)).trans (hF.bL p hp)
        refine GO_callG (f := .func 10) (cap := #[]) hC pB rfl hi (by simp [wantedG]) (by simp [Tryd.ntmps3]) rfl rfl (by simp [okT]) (by simp [gev]) (by simp) (by simp [okX, junk, vf2, vf3]) (by simp [gev, cfV, vf2, vf3]) (fun q hq => by obtain ⟨p, hp, rfl⟩ := mem_keys.1 hq; exact (hT.mem p hp).trans (cL p hp).symm) (fun q hq => (low q hq).symm ▸ hT.low q hq) ?_ ?_
        · intro v ns hV k hk
          rw [prR_key hV k hk]
          omega
        rintro v ns (⟨_, rfl, rfl⟩ | ⟨c', g', h9, _⟩)
        · exact hk _ _ ⟨c1, g1, hinv, (h.tmp x1N1 x1N2 hi (by simp [x1D, d2, d3]) (i := 4) (t := 31) (by decide) rfl (by decide))⟩
        · exact absurd h9 (by rw [hn0]; exact Nat.lt_irrefl 0)
      · -- 5
        have hd0 := hdep _ rfl
        simp [Region.binds] at hd0
        have d1 : listed[1]? = some true := by simp [hd0]
        have vf1 : ts 28 = .slice (some ⟨296, 0, none⟩) l.length c1 := h.tm (1, 28) (by decide) d1
        refine GO_walk [] rfl (by kernel_rfl) (by first | assumption | simp) ?_; intro q hq; simp [hC, hY, vf1]; refine hq _ _ _ _ ?_; clear hq q
        exact hk _ _ ⟨c1, g1, hinv, (h.tmp x1N1 x1N2 hi (by simp [x1D, d1]) (i := 5) (t := 5) (by decide) rfl (by decide))⟩
      · -- 6
        have hd0 := hdep _ rfl
        simp [Region.binds] at hd0
        have d4 : listed[4]? = some true := by simp [hd0]
        have vf4 : ts 31 = .slice none 0 0 := h.tm (4, 31) (by decide) d4
        refine GO_walk [] rfl (by kernel_rfl) (by first | assumption | simp) ?_; intro q hq; simp [hC, hY, vf4]; refine hq _ _ _ _ ?_; clear hq q
        exact hk _ _ ⟨c1, g1, hinv, (h.tmp x1N1 x1N2 hi (by simp [x1D, d4]) (i := 6) (t := 6) (by decide) rfl (by decide))⟩
    · have hno : ∀ j : Nat, (Array.replicate 7 false)[j]? ≠ some true := fun j => by
        rw [Array.getElem?_replicate]
        split <;> simp
      exact ⟨l.length, pF l, ⟨Nat.le_refl _, fun _ _ => rfl⟩, TJ.start hno⟩
  · have hnp : 0 < nl.length := Nat.pos_of_ne_zero hn0
    have hnl9 : nl.length ≤ 2932031007402 := by
      refine Nat.le_trans ?_ hl9
      rw [← hnl]
      exact List.length_filter_le _ _
    refine GW_any follows ?_
    simp only [Array.toList, List.append_eq, List.cons_append, List.nil_append, List.length_cons, List.length_nil, Nat.reduceAdd]
    refine GA_gen (x2F L bm bs ks off n cap off2 n2 cap2 g bx tp nr md st l nl) ?_ ?_
    · refine ⟨by simp [cfB], by simp [cfB], by simp [cfB], by simp [cfB], ?_, ?_⟩
      · intro k hk
        simp (disch := omega) only [upd_other, updL, hpL_cons, hpL_nil, if_neg, hT.low]
      · intro p hp
        have hb := hT.ok.big p hp
        simp (disch := omega) only [upd_other, updL, hpL_cons, hpL_nil, if_neg]
        exact hT.mem p hp
    intro ts0 hp0 hF
    refine GA_ind (fun listed ts hp => ∃ c1 g1 c2 g2, (l.length ≤ c1 ∧ (∀ j, j < 3 * l.length → g1 j = pF l j) ∧ nl.length ≤ c2 ∧ (∀ j, j < 3 * nl.length → g2 j = pF nl j)) ∧ TJ x2N x2X x2D (x2V L bm bs ks off n cap off2 n2 cap2 g bx tp nr md st l nl c1 g1 c2 g2) (x2Bk L bm bs ks off n cap off2 n2 cap2 g bx tp nr md st l nl c1 g1 c2 g2) ts0 hp0 listed ts hp) (fun listed ts hp szR rdR hI => ?_) (fun fuel listed ts hp i szR hi hdep h hk => ?_) _ _ _ _ (by simp) (by decide +kernel) ?_
    · have hall' := ready_nilB szR (by kernel_rfl) rdR
      have hall : ∀ i, i < 7 → listed[i]? = some true := fun i hi => hall' i (by simpa using hi)
      obtain ⟨c1, g1, c2, g2, hinv, hI⟩ := hI
      have k2 : ts 2 = .pointer (some ⟨200, 0, none⟩) := (hI.t0 2 (by decide)).trans hF.e2
      have k3 : ts 3 = .pointer (some ⟨208, 0, none⟩) := (hI.t0 3 (by decide)).trans hF.e3
      have k5 : ts 5 = .slice (some ⟨296, 0, none⟩) l.length c1 := hI.tm (5, 5) (by decide) (hall 5 (by omega))
      have k6 : ts 6 = .slice (some ⟨320, 0, none⟩) nl.length c2 := hI.tm (6, 6) (by decide) (hall 6 (by omega))
      have c200 : hp 200 = some (⟨#[.slice (some ⟨100, off, none⟩) n cap, .int .i64 g, .int .i64 bx, .int .i64 tp, .int .i64 nr, .int .i64 md], .ty 24⟩) := (hI.ext (by decide)).trans hF.b200
      have c208 : hp 208 = some (⟨#[.int .i64 st, .slice (some ⟨ks, off2, none⟩) n2 cap2], .ty 27⟩) := (hI.ext (by decide)).trans hF.b208
      have c296 : hp 296 = some (⟨fa (3 * c1) .i64 g1, .ty 36⟩) := hI.bx (1, 296) (by decide) (hall 1 (by omega)) (by simp [x2X])
      have c320 : hp 320 = some (⟨fa (3 * c2) .i64 g2, .ty 36⟩) := hI.bx (4, 320) (by decide) (hall 4 (by omega)) (by simp [x2X])
      have cL : ∀ p ∈ L, hp p.1 = some p.2 := fun p hp => (hI.ext (x2X200 _ (hT.ok.big p hp).2)).trans (hF.bL p hp)
      have clow : ∀ k, k < 100 → hp k = G0 k := fun k hk => (hI.ext (x2X200 _ (by omega))).trans (hF.low k hk)
      simp only [thenG_normal]
      refine GW_weak (weakLL [(2, .pointer (some ⟨200, 0, none⟩)), (3, .pointer (some ⟨208, 0, none⟩)), (5, .slice (some ⟨296, 0, none⟩) l.length c1), (6, .slice (some ⟨320, 0, none⟩) nl.length c2)] 344 hC G0F (m := [(200, cfB (.slice (some ⟨100, off, none⟩) n cap) g bx tp nr md), (208, stB' st ks off2 n2 cap2), (296, ⟨fa (3 * c1) .i64 g1, .ty 36⟩), (320, ⟨fa (3 * c2) .i64 g2, .ty 36⟩)]) hT.ok hT.fx hC0 (by omega) ?_ ?_ ?_) ?_
      · simp [k2, k3, k5, k6, idsV, idsA, idsF, ids0, dom]
      · simp [c200, c208, c296, c320, cfB, stB', ids_lit, idsF, ids0, dom, hA, hS, hne, Blk.fx_ids (fa_fx _ _ _)]
      · exact cL
      obtain ⟨q11, q12, q21, q22⟩ := hinv
      simp only [List.cons_append, List.nil_append]
      repeat' (first | refine gwS ?_ | simp only [wN, wM, Nat.reduceAdd, Nat.reduceMul] | ((first | refine gwR [] ?_ | refine gwD [] ?_); intro Q hQ hP; simp [hC, hY, hA, hS, hne]; (first | refine hQ _ _ _ _ (by kernel_rfl) ?_ | refine hP _ _ (by kernel_rfl) fun _ => ?_); clear hQ hP Q) | refine gwB ?_ | refine gwT ?_ | refine gwK ?_ | refine gwE ?_ | refine gwG ?_ | refine gwL ?_ | simp only [blockG_exit] | (refine gwC ?_ ?_ <;> (intro hb; first | (cases hb; done) | skip)))
      refine GW_for l.length (neSt2 L ks off n cap off2 n2 cap2 g bx tp nr md st l nl c1 c2 g1 g2) ?_ ?_ ?_
      · refine weakLL _ 900 hC G0F hT.ok hT.fx hC0 (by omega) ?_ ?_ ?_
        · simp [idsV, idsA, idsF, ids0, dom, cnt_0]
        · simp [cfB, stB', ids_lit, idsF, ids0, dom, hA, hS, hne, Blk.fx_ids (fa_fx _ _ _)]
        · (intro p hp; have hpb := hT.ok.big p hp; (try dsimp only); simp (disch := omega) only [addB, upd_other, hpL_cons, hpL_nil, if_neg, updL, List.cons_append, List.nil_append]; first | exact hT.mem p hp | exact cL p hp)
      · intro i hi
        obtain ⟨a, b, hab, hbn, he⟩ := hat i hi
        obtain ⟨p0, p1, p2⟩ := pF_at he
        simp only [prOf] at p0 p1 p2
        obtain ⟨d0, d1, d2, e0, e1, e2, s1, D0, D1, D2, E0, E1, E2, Z0, S1, S2, Q0, Q1⟩ := sq_parts rt (a := a) (b := b) (Nat.lt_trans hab hbn) hbn
        have X0 := hSb.int (i := a) (Nat.lt_trans hab hbn) (q := 0) (by decide)
        have X1 := hSb.int (i := a) (Nat.lt_trans hab hbn) (q := 1) (by decide)
        have X2 := hSb.int (i := a) (Nat.lt_trans hab hbn) (q := 2) (by decide)
        have Y0 := hSb.int (i := b) hbn (q := 0) (by decide)
        have Y1 := hSb.int (i := b) hbn (q := 1) (by decide)
        have Y2 := hSb.int (i := b) hbn (q := 2) (by decide)
        simp only [Nat.add_zero] at X0 Y0
        obtain ⟨q, hq⟩ : ∃ q, sqF fs a b = q := ⟨_, rfl⟩
        rw [hq] at p2 S2 Q0 Q1
        obtain ⟨r, h, r1, rr, nn, wr0, wr1, wr2, wr3, wr4, wr5, wr6, wr7, wr8, wr9, wr10, hcase⟩ := way_law Q0 Q1
        have hnb : nearB true nr (pF l (3 * i + 2)) = decide (r < nr) := by
          rw [p2]
          unfold nearB
          rw [hw9, hnrr, Bool.true_and, Bool.eq_iff_iff, decide_eq_true_eq, decide_eq_true_eq, ← wr0]
          exact hnis q Q0
        have hq64 : i64 q := ne_i64 Q0 Q1
        have hld := psr_ld (g := g1) q11 hi
        rw [q12 _ (ne_lt0 hi), q12 _ (ne_lt (u := 1) hi (by decide)), q12 _ (ne_lt (u := 2) hi (by decide)), p0, p1, p2] at hld
        have hi1 : (i : Int) < l.length := Int.ofNat_lt.2 hi
        have hz : (0 : Int) ≤ i := Int.natCast_nonneg i
        have hs' := succ_bm hi hl9
        have ha0 : (0 : Int) ≤ a := Int.natCast_nonneg a
        have hb0 : (0 : Int) ≤ b := Int.natCast_nonneg b
        have ha1 : (a : Int) < n2 := Int.ofNat_lt.2 (Nat.lt_trans hab hbn)
        have hb1 : (b : Int) < n2 := Int.ofNat_lt.2 hbn
        have ha2 : ¬ (a : Int) < 0 := Int.not_lt.2 ha0
        have hba : ¬ (b : Int) ≤ a := Int.not_le.2 (Int.ofNat_lt.2 hab)
        have hbm : ¬ (n2 : Int) ≤ b := Int.not_le.2 hb1
        have hba' : ¬ b ≤ a := Nat.not_le.2 hab
        have hbm' : ¬ n2 ≤ b := Nat.not_le.2 hbn
        have hab' : a < n2 := Nat.lt_trans hab hbn
        obtain ⟨k, hk⟩ : ∃ k, cntN true nr l i = k := ⟨_, rfl⟩
        cases hqn : nearB true nr (pF l (3 * i + 2)) with
        | true =>
          have hct := cnt_t hi hqn
          have hkl := cnt_lt hi hqn
          have n0 := near_pF (u := 0) hi hqn (by decide)
          have n1 := near_pF (u := 1) hi hqn (by decide)
          have n2' := near_pF (u := 2) hi hqn (by decide)
          rw [hnl, hk] at n0 n1 n2' hkl
          rw [hk] at hct
          simp only [Nat.add_zero] at n0
          rw [p0] at n0
          rw [p1] at n1
          rw [p2] at n2'
          have hldn := psr_ld (g := g2) q21 hkl
          rw [q22 _ (ne_lt0 hkl), q22 _ (ne_lt (u := 1) hkl (by decide)), q22 _ (ne_lt (u := 2) hkl (by decide)), ← n0, ← n1, ← n2'] at hldn
          rw [hnb, decide_eq_true_eq] at hqn
          have hk1 : (k : Int) < nl.length := Int.ofNat_lt.2 hkl
          have hk0 : (0 : Int) ≤ k := Int.natCast_nonneg k
          have hks' := succ_bm hkl hnl9
          rcases hcase with ⟨rfl, rfl, rfl⟩ | ⟨hc1, hc2, hc3⟩
          ·
            unfold neSt2 stB' cfB
            repeat' (first | refine gwS ?_ | refine GWL_start ?_ | refine GWL_step ?_ | simp only [wN, wM, Nat.reduceAdd, Nat.reduceMul] | ((first | refine gwR [] ?_ | refine gwD [] ?_); intro Q hQ hP; simp [hC, hY, hA, hS, hne, hi1, hi, hz, hs', hld, X0, X1, X2, Y0, Y1, Y2, D0, D1, D2, E0, E1, E2, Z0, S1, S2, hq64, wr1, wr2, wr3, wr4, wr5, wr6, wr7, wr8, wr9, wr10, ha0, hb0, ha1, hb1, ha2, hba, hbm, hba', hbm', hab', hbn, hk, hqn, hldn, hk1, hk0, hks', hkl]; (first | refine hQ _ _ _ _ (by rcases hT.k8 with h8 | h8 <;> subst h8 <;> kernel_rfl) ?_ | refine hP _ _ (by rcases hT.k8 with h8 | h8 <;> subst h8 <;> kernel_rfl) fun _ => ?_); clear hQ hP Q) | refine gwB ?_ | refine gwT ?_ | refine gwK ?_ | refine gwE ?_ | refine gwG ?_ | refine gwL ?_ | simp only [blockG_exit] | (refine gwC ?_ ?_ <;> (intro hb; first | (cases hb; done) | skip)))
            refine weakLL _ 900 hC G0F hT.ok hT.fx hC0 (by omega) ?_ ?_ ?_
            · simp [idsV, idsA, idsF, ids0, dom, hs', hct, hks', hk]
            · simp [cfB, stB', ids_lit, idsF, ids0, dom, hA, hS, hne, Blk.fx_ids (fa_fx _ _ _)]
            · (intro p hp; have hpb := hT.ok.big p hp; (try dsimp only); simp (disch := omega) only [addB, upd_other, hpL_cons, hpL_nil, if_neg, updL, List.cons_append, List.nil_append]; first | exact hT.mem p hp | exact cL p hp)
          ·
            unfold neSt2 stB' cfB
            repeat' (first | refine gwS ?_ | refine GWL_start ?_ | refine GWL_step ?_ | simp only [wN, wM, Nat.reduceAdd, Nat.reduceMul] | ((first | refine gwR [] ?_ | refine gwD [] ?_); intro Q hQ hP; simp [hC, hY, hA, hS, hne, hi1, hi, hz, hs', hld, X0, X1, X2, Y0, Y1, Y2, D0, D1, D2, E0, E1, E2, Z0, S1, S2, hq64, wr1, wr2, wr3, wr4, wr5, wr6, wr7, wr8, wr9, wr10, ha0, hb0, ha1, hb1, ha2, hba, hbm, hba', hbm', hab', hbn, hk, hqn, hldn, hk1, hk0, hks', hkl, hc1, hc2, hc3]; (first | refine hQ _ _ _ _ (by rcases hT.k8 with h8 | h8 <;> subst h8 <;> kernel_rfl) ?_ | refine hP _ _ (by rcases hT.k8 with h8 | h8 <;> subst h8 <;> kernel_rfl) fun _ => ?_); clear hQ hP Q) | refine gwB ?_ | refine gwT ?_ | refine gwK ?_ | refine gwE ?_ | refine gwG ?_ | refine gwL ?_ | simp only [blockG_exit] | (refine gwC ?_ ?_ <;> (intro hb; first | (cases hb; done) | skip)))
            refine weakLL _ 900 hC G0F hT.ok hT.fx hC0 (by omega) ?_ ?_ ?_
            · simp [idsV, idsA, idsF, ids0, dom, hs', hct, hks', hk]
            · simp [cfB, stB', ids_lit, idsF, ids0, dom, hA, hS, hne, Blk.fx_ids (fa_fx _ _ _)]
            · (intro p hp; have hpb := hT.ok.big p hp; (try dsimp only); simp (disch := omega) only [addB, upd_other, hpL_cons, hpL_nil, if_neg, updL, List.cons_append, List.nil_append]; first | exact hT.mem p hp | exact cL p hp)
        | false =>
          have hct := cnt_f hi hqn
          rw [hk] at hct
          have hqr : ¬ r < nr := by rw [hnb, decide_eq_false_iff_not] at hqn; exact hqn
          by_cases hkl : k < nl.length
          ·
            have hno := near_not hi hqn (by rw [hk, hnl]; exact hkl)
            rw [hk, hnl, p0, p1, p2] at hno
            have hldn := psr_ld (g := g2) q21 hkl
            rw [q22 _ (ne_lt0 hkl), q22 _ (ne_lt (u := 1) hkl (by decide)), q22 _ (ne_lt (u := 2) hkl (by decide))] at hldn
            have hk1 : (k : Int) < nl.length := Int.ofNat_lt.2 hkl
            have hk0 : (0 : Int) ≤ k := Int.natCast_nonneg k
            rcases hcase with ⟨rfl, rfl, rfl⟩ | ⟨hc1, hc2, hc3⟩
            ·
              unfold neSt2 stB' cfB
              repeat' (first | refine gwS ?_ | refine GWL_start ?_ | refine GWL_step ?_ | simp only [wN, wM, Nat.reduceAdd, Nat.reduceMul] | ((first | refine gwR [] ?_ | refine gwD [] ?_); intro Q hQ hP; simp [hC, hY, hA, hS, hne, hi1, hi, hz, hs', hld, X0, X1, X2, Y0, Y1, Y2, D0, D1, D2, E0, E1, E2, Z0, S1, S2, hq64, wr1, wr2, wr3, wr4, wr5, wr6, wr7, wr8, wr9, wr10, ha0, hb0, ha1, hb1, ha2, hba, hbm, hba', hbm', hab', hbn, hk, hqr, hno, hldn, hk1, hk0, hkl]; (first | refine hQ _ _ _ _ (by rcases hT.k8 with h8 | h8 <;> subst h8 <;> kernel_rfl) ?_ | refine hP _ _ (by rcases hT.k8 with h8 | h8 <;> subst h8 <;> kernel_rfl) fun _ => ?_); clear hQ hP Q) | refine gwB ?_ | refine gwT ?_ | refine gwK ?_ | refine gwE ?_ | refine gwG ?_ | refine gwL ?_ | simp only [blockG_exit] | (refine gwC ?_ ?_ <;> (intro hb; first | (cases hb; done) | skip)))
              refine weakLL _ 900 hC G0F hT.ok hT.fx hC0 (by omega) ?_ ?_ ?_
              · simp [idsV, idsA, idsF, ids0, dom, hs', hct, hk]
              · simp [cfB, stB', ids_lit, idsF, ids0, dom, hA, hS, hne, Blk.fx_ids (fa_fx _ _ _)]
              · (intro p hp; have hpb := hT.ok.big p hp; (try dsimp only); simp (disch := omega) only [addB, upd_other, hpL_cons, hpL_nil, if_neg, updL, List.cons_append, List.nil_append]; first | exact hT.mem p hp | exact cL p hp)
            ·
              unfold neSt2 stB' cfB
              repeat' (first | refine gwS ?_ | refine GWL_start ?_ | refine GWL_step ?_ | simp only [wN, wM, Nat.reduceAdd, Nat.reduceMul] | ((first | refine gwR [] ?_ | refine gwD [] ?_); intro Q hQ hP; simp [hC, hY, hA, hS, hne, hi1, hi, hz, hs', hld, X0, X1, X2, Y0, Y1, Y2, D0, D1, D2, E0, E1, E2, Z0, S1, S2, hq64, wr1, wr2, wr3, wr4, wr5, wr6, wr7, wr8, wr9, wr10, ha0, hb0, ha1, hb1, ha2, hba, hbm, hba', hbm', hab', hbn, hk, hqr, hno, hldn, hk1, hk0, hkl, hc1, hc2, hc3]; (first | refine hQ _ _ _ _ (by rcases hT.k8 with h8 | h8 <;> subst h8 <;> kernel_rfl) ?_ | refine hP _ _ (by rcases hT.k8 with h8 | h8 <;> subst h8 <;> kernel_rfl) fun _ => ?_); clear hQ hP Q) | refine gwB ?_ | refine gwT ?_ | refine gwK ?_ | refine gwE ?_ | refine gwG ?_ | refine gwL ?_ | simp only [blockG_exit] | (refine gwC ?_ ?_ <;> (intro hb; first | (cases hb; done) | skip)))
              refine weakLL _ 900 hC G0F hT.ok hT.fx hC0 (by omega) ?_ ?_ ?_
              · simp [idsV, idsA, idsF, ids0, dom, hs', hct, hk]
              · simp [cfB, stB', ids_lit, idsF, ids0, dom, hA, hS, hne, Blk.fx_ids (fa_fx _ _ _)]
              · (intro p hp; have hpb := hT.ok.big p hp; (try dsimp only); simp (disch := omega) only [addB, upd_other, hpL_cons, hpL_nil, if_neg, updL, List.cons_append, List.nil_append]; first | exact hT.mem p hp | exact cL p hp)
          ·
            have hk1 : ¬ (k : Int) < nl.length := fun c => hkl (Int.ofNat_lt.1 c)
            rcases hcase with ⟨rfl, rfl, rfl⟩ | ⟨hc1, hc2, hc3⟩
            ·
              unfold neSt2 stB' cfB
              repeat' (first | refine gwS ?_ | refine GWL_start ?_ | refine GWL_step ?_ | simp only [wN, wM, Nat.reduceAdd, Nat.reduceMul] | ((first | refine gwR [] ?_ | refine gwD [] ?_); intro Q hQ hP; simp [hC, hY, hA, hS, hne, hi1, hi, hz, hs', hld, X0, X1, X2, Y0, Y1, Y2, D0, D1, D2, E0, E1, E2, Z0, S1, S2, hq64, wr1, wr2, wr3, wr4, wr5, wr6, wr7, wr8, wr9, wr10, ha0, hb0, ha1, hb1, ha2, hba, hbm, hba', hbm', hab', hbn, hk, hqr, hk1, hkl]; (first | refine hQ _ _ _ _ (by rcases hT.k8 with h8 | h8 <;> subst h8 <;> kernel_rfl) ?_ | refine hP _ _ (by rcases hT.k8 with h8 | h8 <;> subst h8 <;> kernel_rfl) fun _ => ?_); clear hQ hP Q) | refine gwB ?_ | refine gwT ?_ | refine gwK ?_ | refine gwE ?_ | refine gwG ?_ | refine gwL ?_ | simp only [blockG_exit] | (refine gwC ?_ ?_ <;> (intro hb; first | (cases hb; done) | skip)))
              refine weakLL _ 900 hC G0F hT.ok hT.fx hC0 (by omega) ?_ ?_ ?_
              · simp [idsV, idsA, idsF, ids0, dom, hs', hct, hk]
              · simp [cfB, stB', ids_lit, idsF, ids0, dom, hA, hS, hne, Blk.fx_ids (fa_fx _ _ _)]
              · (intro p hp; have hpb := hT.ok.big p hp; (try dsimp only); simp (disch := omega) only [addB, upd_other, hpL_cons, hpL_nil, if_neg, updL, List.cons_append, List.nil_append]; first | exact hT.mem p hp | exact cL p hp)
            ·
              unfold neSt2 stB' cfB
              repeat' (first | refine gwS ?_ | refine GWL_start ?_ | refine GWL_step ?_ | simp only [wN, wM, Nat.reduceAdd, Nat.reduceMul] | ((first | refine gwR [] ?_ | refine gwD [] ?_); intro Q hQ hP; simp [hC, hY, hA, hS, hne, hi1, hi, hz, hs', hld, X0, X1, X2, Y0, Y1, Y2, D0, D1, D2, E0, E1, E2, Z0, S1, S2, hq64, wr1, wr2, wr3, wr4, wr5, wr6, wr7, wr8, wr9, wr10, ha0, hb0, ha1, hb1, ha2, hba, hbm, hba', hbm', hab', hbn, hk, hqr, hk1, hkl, hc1, hc2, hc3]; (first | refine hQ _ _ _ _ (by rcases hT.k8 with h8 | h8 <;> subst h8 <;> kernel_rfl) ?_ | refine hP _ _ (by rcases hT.k8 with h8 | h8 <;> subst h8 <;> kernel_rfl) fun _ => ?_); clear hQ hP Q) | refine gwB ?_ | refine gwT ?_ | refine gwK ?_ | refine gwE ?_ | refine gwG ?_ | refine gwL ?_ | simp only [blockG_exit] | (refine gwC ?_ ?_ <;> (intro hb; first | (cases hb; done) | skip)))
              refine weakLL _ 900 hC G0F hT.ok hT.fx hC0 (by omega) ?_ ?_ ?_
              · simp [idsV, idsA, idsF, ids0, dom, hs', hct, hk]
              · simp [cfB, stB', ids_lit, idsF, ids0, dom, hA, hS, hne, Blk.fx_ids (fa_fx _ _ _)]
              · (intro p hp; have hpb := hT.ok.big p hp; (try dsimp only); simp (disch := omega) only [addB, upd_other, hpL_cons, hpL_nil, if_neg, updL, List.cons_append, List.nil_append]; first | exact hT.mem p hp | exact cL p hp)
      ·
        have hnc2 := hnc
        unfold nkE at hnc
        rw [hl3] at hnc
        rw [decide_eq_true hpos] at hlv
        have hls := least_fun bs off2 n2 cap2 fs hSb hcap2 st hs
        rw [hl, hlv] at hls
        rw [decide_eq_true hnp] at hnc
        simp only [Bool.false_eq_true, if_false, if_true] at hnc
        have hpos2 : (0 : Int) < l.length := Int.ofNat_lt.2 hpos
        have hpos3 : ¬ l.length = 0 := Nat.ne_of_gt hpos
        have hnp2 : (0 : Int) < nl.length := Int.ofNat_lt.2 hnp
        have hnp3 : ¬ nl.length = 0 := Nat.ne_of_gt hnp
        have hnp4 : ((nl.length : Int) == 0) = false := by simp [hnp3]
        have hpw := hl2 hnp
        have hcl : cntN true nr l l.length = nl.length := by rw [cnt_all, hnl]
        unfold neSt2 stB' cfB
        repeat' (first | refine gwS ?_ | simp only [wN, wM, Nat.reduceAdd, Nat.reduceMul] | ((first | refine gwR [12, 13] ?_ | refine gwD [12, 13] ?_); intro Q hQ hP; simp [hC, hY, hA, hS, hne, hm1, hm2, hm3, hnrw, hpos, hpos2, hpos3, hnp, hnp2, hnp3, hnp4, hpw, hcl]; (repeat ((first | (refine heapK_mv hls G0F (B := 200) (oneL_ok hSb.fx) (fun k => if k = 100 then ks else k) (fun k hk => if_neg (by omega)) (by simp [ren, renA, renF, ren0]) (by simp) (by simp [hrs, hS, hne, hks]) (by simp [keys]) (by simp [keys]; rfl) ?_) | (refine heapK_L hnc hT.ok (by (intro p hp; have hpb := hT.ok.big p hp; (try dsimp only); simp (disch := omega) only [addB, upd_other, hpL_cons, hpL_nil, if_neg, updL, List.cons_append, List.nil_append]; first | exact hT.mem p hp | exact cL p hp)) ?_)); try simp [hC, hY, hA, hS, hne, hm1, hm2, hm3, hnrw, hpos, hpos2, hpos3, hnp, hnp2, hnp3, hnp4, hpw, hcl])); (first | refine hQ _ _ _ _ (by kernel_rfl) ?_ | refine hP _ _ (by kernel_rfl) fun _ => ?_); clear hQ hP Q) | refine gwB ?_ | refine gwT ?_ | refine gwK ?_ | refine gwE ?_ | refine gwG ?_ | refine gwL ?_ | simp only [blockG_exit] | (refine gwC ?_ ?_ <;> (intro hb; first | (cases hb; done) | skip)))
        refine ⟨.inr rfl, by simp [Tryd.results3], keep_of G0F (by (intro p hp; have hpb := hT.ok.big p hp; first | rfl | (simp (disch := omega) only [addB, upd_other, hpL_cons, hpL_nil, if_neg, updL, List.cons_append, List.nil_append] <;> done))) (by (intro k hk; first | exact hLow k hk | (simp (disch := omega) only [hLow, addB, List.mem_cons, List.not_mem_nil, or_false, upd_other, hpL_cons, hpL_nil, if_neg, updL, List.cons_append, List.nil_append] <;> done)))⟩
    · have hlt : i < 7 := by
        have := (Array.getElem?_eq_some_iff.1 hi).1
        rw [szR] at this
        simpa using this
      obtain ⟨c1, g1, c2, g2, hinv, h⟩ := h
      obtain rfl | rfl | rfl | rfl | rfl | rfl | rfl : i = 0 ∨ i = 1 ∨ i = 2 ∨ i = 3 ∨ i = 4 ∨ i = 5 ∨ i = 6 := by omega
      · -- 0
        have vx3 : ts 3 = .pointer (some ⟨208, 0, none⟩) := (h.t0 3 (by decide)).trans hF.e3
        have y208 : hp 208 = some (⟨#[.int .i64 st, .slice (some ⟨ks, off2, none⟩) n2 cap2], .ty 27⟩) := (h.ext (by decide)).trans hF.b208
        refine GO_walk [] rfl (by kernel_rfl) (by first | assumption | simp) ?_; intro q hq; simp [hC, hY, vx3, y208]; refine hq _ _ _ _ ?_; clear hq q
        exact hk _ _ ⟨c1, g1, c2, g2, hinv, (h.tmp x2N1 x2N2 hi (by simp [x2D]) (i := 0) (t := 27) (by decide) rfl (by decide))⟩
      · -- 1
        have hd0 := hdep _ rfl
        simp [Region.binds] at hd0
        have d0 : listed[0]? = some true := by simp [hd0]
        have vf0 : ts 27 = .agg #[.int .i64 st, .slice (some ⟨ks, off2, none⟩) n2 cap2] := h.tm (0, 27) (by decide) d0
        have low : ∀ k, k < 100 → hp k = G0 k := fun k hk => (h.ext (x2X200 _ (by omega))).trans (hF.low k hk)
        have cL : ∀ p ∈ L, hp p.1 = some p.2 := fun p hp => (h.ext (x2X200 _ (hT.ok.big p hp).2)).trans (hF.bL p hp)
        refine GO_callG (f := .func 9) (cap := #[]) hC pA rfl hi (by simp [wantedG]) (by simp [Tryd.ntmps3]) rfl rfl (by simp [okT]) (by simp [gev]) (by simp) (by simp [okX, junk, vf0]) (by simp [gev, cfV, vf0]) (by simp [cL _ hT.kb]) (fun q hq => (low q hq).symm ▸ (by simp (disch := omega) only [hpL_cons, hpL_nil, if_neg])) ?_ ?_
        · intro v ns hV k hk
          rw [prR_key hV k hk]
          omega
        rintro v ns (⟨h9, _⟩ | ⟨c', g', _, u1, u2, rfl, rfl⟩)
        · exact absurd h9 (Nat.ne_of_gt hpos)
        have h := h.chg (V' := x2V L bm bs ks off n cap off2 n2 cap2 g bx tp nr md st l nl c' g' c2 g2) (Bk' := x2Bk L bm bs ks off n cap off2 n2 cap2 g bx tp nr md st l nl c' g' c2 g2) hi (fun j hj hD => by unfold x2V; split <;> first | rfl | exact absurd rfl hj | exact (hD (by decide)).elim) (fun j hj hD => by unfold x2Bk; split <;> first | rfl | exact absurd rfl hj | exact (hD (by decide)).elim)
        obtain ⟨q11, q12, q21, q22⟩ := hinv
        exact hk _ _ ⟨c', g', c2, g2, ⟨u1, u2, q21, q22⟩, h.new x2N1 x2N2 x2X1 hi (by simp [x2D]) (i := 1) (t := 28) (k := 296) (by decide) rfl (by decide) rfl (by decide)⟩
      · -- 2
        have vx2 : ts 2 = .pointer (some ⟨200, 0, none⟩) := (h.t0 2 (by decide)).trans hF.e2
        have y200 : hp 200 = some (⟨#[.slice (some ⟨100, off, none⟩) n cap, .int .i64 g, .int .i64 bx, .int .i64 tp, .int .i64 nr, .int .i64 md], .ty 24⟩) := (h.ext (by decide)).trans hF.b200
        refine GO_walk [] rfl (by kernel_rfl) (by first | assumption | simp) ?_; intro q hq; simp [hC, hY, vx2, y200]; refine hq _ _ _ _ ?_; clear hq q
        exact hk _ _ ⟨c1, g1, c2, g2, hinv, (h.tmp x2N1 x2N2 hi (by simp [x2D]) (i := 2) (t := 29) (by decide) rfl (by decide))⟩
      · -- 3
        have vx3 : ts 3 = .pointer (some ⟨208, 0, none⟩) := (h.t0 3 (by decide)).trans hF.e3
        have y208 : hp 208 = some (⟨#[.int .i64 st, .slice (some ⟨ks, off2, none⟩) n2 cap2], .ty 27⟩) := (h.ext (by decide)).trans hF.b208
        refine GO_walk [] rfl (by kernel_rfl) (by first | assumption | simp) ?_; intro q hq; simp [hC, hY, vx3, y208]; refine hq _ _ _ _ ?_; clear hq q
        exact hk _ _ ⟨c1, g1, c2, g2, hinv, (h.tmp x2N1 x2N2 hi (by simp [x2D]) (i := 3) (t := 30) (by decide) rfl (by decide))⟩
      · -- 4
        have hd0 := hdep _ rfl
        simp [Region.binds] at hd0
        have d2 : listed[2]? = some true := by simp [hd0]
        have d3 : listed[3]? = some true := by simp [hd0]
        have vf2 : ts 29 = .agg #[.slice (some ⟨100, off, none⟩) n cap, .int .i64 g, .int .i64 bx, .int .i64 tp, .int .i64 nr, .int .i64 md] := h.tm (2, 29) (by decide) d2
        have vf3 : ts 30 = .agg #[.int .i64 st, .slice (some ⟨ks, off2, none⟩) n2 cap2] := h.tm (3, 30) (by decide) d3
        have low : ∀ k, k < 100 → hp k = G0 k := fun k hk => (h.ext (x2X200 _ (by omega))).trans (hF.low k hk)
        have cL : ∀ p ∈ L, hp p.1 = some p.2 := fun p hp => (h.ext (x2X200 _ (hT.ok.big p hp).2)).trans (hF.bL p hp)
        refine GO_callG (f := .func 10) (cap := #[]) hC pB rfl hi (by simp [wantedG]) (by simp [Tryd.ntmps3]) rfl rfl (by simp [okT]) (by simp [gev]) (by simp) (by simp [okX, junk, vf2, vf3]) (by simp [gev, cfV, vf2, vf3]) (fun q hq => by obtain ⟨p, hp, rfl⟩ := mem_keys.1 hq; exact (hT.mem p hp).trans (cL p hp).symm) (fun q hq => (low q hq).symm ▸ hT.low q hq) ?_ ?_
        · intro v ns hV k hk
          rw [prR_key hV k hk]
          omega
        rintro v ns (⟨h9, _⟩ | ⟨c', g', _, u1, u2, rfl, rfl⟩)
        · exact absurd h9 (Nat.ne_of_gt hnp)
        have h := h.chg (V' := x2V L bm bs ks off n cap off2 n2 cap2 g bx tp nr md st l nl c1 g1 c' g') (Bk' := x2Bk L bm bs ks off n cap off2 n2 cap2 g bx tp nr md st l nl c1 g1 c' g') hi (fun j hj hD => by unfold x2V; split <;> first | rfl | exact absurd rfl hj | exact (hD (by decide)).elim) (fun j hj hD => by unfold x2Bk; split <;> first | rfl | exact absurd rfl hj | exact (hD (by decide)).elim)
        obtain ⟨q11, q12, q21, q22⟩ := hinv
        exact hk _ _ ⟨c1, g1, c', g', ⟨q11, q12, u1, u2⟩, h.new x2N1 x2N2 x2X1 hi (by simp [x2D]) (i := 4) (t := 31) (k := 320) (by decide) rfl (by decide) rfl (by decide)⟩
      · -- 5
        have hd0 := hdep _ rfl
        simp [Region.binds] at hd0
        have d1 : listed[1]? = some true := by simp [hd0]
        have vf1 : ts 28 = .slice (some ⟨296, 0, none⟩) l.length c1 := h.tm (1, 28) (by decide) d1
        refine GO_walk [] rfl (by kernel_rfl) (by first | assumption | simp) ?_; intro q hq; simp [hC, hY, vf1]; refine hq _ _ _ _ ?_; clear hq q
        exact hk _ _ ⟨c1, g1, c2, g2, hinv, (h.tmp x2N1 x2N2 hi (by simp [x2D, d1]) (i := 5) (t := 5) (by decide) rfl (by decide))⟩
      · -- 6
        have hd0 := hdep _ rfl
        simp [Region.binds] at hd0
        have d4 : listed[4]? = some true := by simp [hd0]
        have vf4 : ts 31 = .slice (some ⟨320, 0, none⟩) nl.length c2 := h.tm (4, 31) (by decide) d4
        refine GO_walk [] rfl (by kernel_rfl) (by first | assumption | simp) ?_; intro q hq; simp [hC, hY, vf4]; refine hq _ _ _ _ ?_; clear hq q
        exact hk _ _ ⟨c1, g1, c2, g2, hinv, (h.tmp x2N1 x2N2 hi (by simp [x2D, d4]) (i := 6) (t := 6) (by decide) rfl (by decide))⟩
    · have hno : ∀ j : Nat, (Array.replicate 7 false)[j]? ≠ some true := fun j => by
        rw [Array.getElem?_replicate]
        split <;> simp
      exact ⟨l.length, pF l, nl.length, pF nl, ⟨Nat.le_refl _, fun _ _ => rfl, Nat.le_refl _, fun _ _ => rfl⟩, TJ.start hno⟩
set_option maxRecDepth 8000 in
set_option maxHeartbeats 4000000 in
theorem NearExact_00 (g bx tp nr md st : Int) (hg : i64 g) (hbx : i64 bx) (htp : i64 tp) (hnr : i64 nr) (hmd : i64 md) (hs : i64 st) : Ret Tryd.prog G0 3 #[cfV (.slice none 0 0) g bx tp nr md, .agg #[.int .i64 st, .slice none 0 0]] (.bool true) := by
  unfold cfV
  refine ret_of G0F Tryd.func3 rfl Tryd.call3 (by simp) (by simp) (by simp [Tryd.ntmps3]) ?_
  intro C hC hC0 hY
  repeat' (first | refine gwS ?_ | simp only [wN, wM, Nat.reduceAdd, Nat.reduceMul] | ((first | refine gwR [] ?_ | refine gwD [] ?_); intro Q hQ hP; simp [hC, hY]; (first | refine hQ _ _ _ _ (by kernel_rfl) ?_ | refine hP _ _ (by kernel_rfl) fun _ => ?_); clear hQ hP Q) | refine gwB ?_ | refine gwT ?_ | refine gwK ?_ | refine gwE ?_ | refine gwG ?_ | refine gwL ?_ | simp only [blockG_exit] | (refine gwC ?_ ?_ <;> (intro hb; first | (cases hb; done) | skip)))
  refine ⟨.inr trivial, ?_⟩
  simp [Tryd.results3]
set_option maxRecDepth 8000 in
set_option maxHeartbeats 4000000 in
theorem NearExact_0s (b : Blk) (off n cap : Nat) (f : Nat → Int) (h : SB b off n f) (hcap : n ≤ cap) (g bx tp nr md st : Int) (hg : i64 g) (hbx : i64 bx) (htp : i64 tp) (hnr : i64 nr) (hmd : i64 md) (hs : i64 st) :
    Fun Tryd.prog G0 3 #[cfV (.slice none 0 0) g bx tp nr md, .agg #[.int .i64 st, .slice (some ⟨100, off, none⟩) n cap]] (hpL G0 [(100, b)]) (keys [(100, b)]) (.ret (.bool true) []) := by
  refine fun_ofL (B := 200) G0F Tryd.func3 rfl Tryd.call3 (oneL_ok h.fx) ?_ (by simp) (by simp) (by simp) (by simp [Tryd.ntmps3]) (by omega) ?_
  · simp [idsV, idsA, idsF, ids0, keys, cfV]
  intro C hC hC0 hY
  unfold cfV
  repeat' (first | refine gwS ?_ | simp only [wN, wM, Nat.reduceAdd, Nat.reduceMul] | ((first | refine gwR [] ?_ | refine gwD [] ?_); intro Q hQ hP; simp [hC, hY]; (first | refine hQ _ _ _ _ (by kernel_rfl) ?_ | refine hP _ _ (by kernel_rfl) fun _ => ?_); clear hQ hP Q) | refine gwB ?_ | refine gwT ?_ | refine gwK ?_ | refine gwE ?_ | refine gwG ?_ | refine gwL ?_ | simp only [blockG_exit] | (refine gwC ?_ ?_ <;> (intro hb; first | (cases hb; done) | skip)))
  refine ⟨.inr rfl, by simp [Tryd.results3], keep_of G0F (by simp) (by (intro k hk; first | rfl | (simp (disch := omega) only [addB, List.mem_cons, List.not_mem_nil, or_false, upd_other, hpL_cons, hpL_nil, if_neg, updL] <;> done)))⟩
set_option maxRecDepth 8000 in
set_option maxHeartbeats 4000000 in
theorem NearExact_s0 (b : Blk) (off n cap : Nat) (f : Nat → Int) (h : MB b off n f) (hcap : n ≤ cap) (g bx tp nr md st : Int) (hg : i64 g) (hbx : i64 bx) (htp : i64 tp) (hnr : i64 nr) (hmd : i64 md) (hs : i64 st) :
    Fun Tryd.prog G0 3 #[cfV (.slice (some ⟨100, off, none⟩) n cap) g bx tp nr md, .agg #[.int .i64 st, .slice none 0 0]] (hpL G0 [(100, b)]) (keys [(100, b)]) (.ret (.bool true) []) := by
  refine fun_ofL (B := 200) G0F Tryd.func3 rfl Tryd.call3 (oneL_ok h.fx) ?_ (by simp) (by simp) (by simp) (by simp [Tryd.ntmps3]) (by omega) ?_
  · simp [idsV, idsA, idsF, ids0, keys, cfV]
  intro C hC hC0 hY
  have hr := fun ρ => Blk.fx_rn h.fx ρ
  have hck := chk11_fun b off n cap f h g bx tp nr md
  unfold cfV
  cases ok : cfOk n f g bx tp nr md with
  | false =>
    rw [ok] at hck
    simp only [Bool.false_eq_true, if_false] at hck
    repeat' (first | refine gwS ?_ | simp only [wN, wM, Nat.reduceAdd, Nat.reduceMul] | ((first | refine gwR [6] ?_ | refine gwD [6] ?_); intro Q hQ hP; simp [hC, hY]; (repeat ((first | (refine heapK_mv hck G0F (B := 200) (oneL_ok h.fx) (fun k => k) (fun k hk => rfl) (by simp [ren, renA, renF, ren0, cfV]) (by simp) (by simp [hr]) (by simp [keys]) (by simp [keys]; rfl) ?_)); try simp [hC, hY])); (first | refine hQ _ _ _ _ (by kernel_rfl) ?_ | refine hP _ _ (by kernel_rfl) fun _ => ?_); clear hQ hP Q) | refine gwB ?_ | refine gwT ?_ | refine gwK ?_ | refine gwE ?_ | refine gwG ?_ | refine gwL ?_ | simp only [blockG_exit] | (refine gwC ?_ ?_ <;> (intro hb; first | (cases hb; done) | skip)))
    refine ⟨.inr rfl, by simp [Tryd.results3], keep_of G0F (by simp) (by (intro k hk; first | rfl | (simp (disch := omega) only [addB, List.mem_cons, List.not_mem_nil, or_false, upd_other, hpL_cons, hpL_nil, if_neg, updL] <;> done)))⟩
  | true =>
    rw [ok] at hck
    simp only [if_true] at hck
    repeat' (first | refine gwS ?_ | simp only [wN, wM, Nat.reduceAdd, Nat.reduceMul] | ((first | refine gwR [6] ?_ | refine gwD [6] ?_); intro Q hQ hP; simp [hC, hY]; (repeat ((first | (refine heapK_mv hck G0F (B := 200) (oneL_ok h.fx) (fun k => k) (fun k hk => rfl) (by simp [ren, renA, renF, ren0, cfV]) (by simp) (by simp [hr]) (by simp [keys]) (by simp [keys]; rfl) ?_)); try simp [hC, hY])); (first | refine hQ _ _ _ _ (by kernel_rfl) ?_ | refine hP _ _ (by kernel_rfl) fun _ => ?_); clear hQ hP Q) | refine gwB ?_ | refine gwT ?_ | refine gwK ?_ | refine gwE ?_ | refine gwG ?_ | refine gwL ?_ | simp only [blockG_exit] | (refine gwC ?_ ?_ <;> (intro hb; first | (cases hb; done) | skip)))
    refine ⟨.inr rfl, by simp [Tryd.results3], keep_of G0F (by simp) (by (intro k hk; first | rfl | (simp (disch := omega) only [addB, List.mem_cons, List.not_mem_nil, or_false, upd_other, hpL_cons, hpL_nil, if_neg, updL] <;> done)))⟩
end Go.Gy
namespace Go.Gy
set_option linter.unusedSimpArgs false
set_option linter.unusedVariables false
set_option maxRecDepth 100000
open Go Go.RowKit Go.Proofs Go.ChangeShapes Go.WideShapes Go.ChangeAt

section
variable {H : Type} {enc : TypeId × Value → H} {P : Program}
theorem post_of_below {f : Func} {s : ChangeSpec} {apart fresh handsOn again : Bool} {W W' : World} {args : Array Value} {v : Value} {ds gs : List (DataW H)} {before pa pv : List MemPlace}
    (hW : DataW.Whole enc P f.params.toList s.vars apart W args.toList ds gs before)
    (hres : ∀ (b : Nat) (sp : Nat → Bool) (hd : Bool), DataW.TrodAll enc P W' b sp hd f.resultTypes.toList (v.resultList f.resultTypes.size) (s.fn H (ds ++ gs)).results [])
    (hargs : ∀ sp : Nat → Bool, (∀ p ∈ before, sp p.block = true) → DataW.TrodAll enc P W' 0 sp true f.params.toList args.toList (s.fn H (ds ++ gs)).args pa)
    (hvars : ∀ sp : Nat → Bool, (∀ p ∈ before, sp p.block = true) → DataW.TrodVars enc P W' sp s.vars (s.fn H (ds ++ gs)).vars pv)
    (hps : before = pa ++ pv) (hb : Below W.heap.size W W')
    (hok : ∀ (j : Nat) (t : TypeId) (r : Value), f.resultTypes[j]? = some t → (v.resultList f.resultTypes.size)[j]? = some r → Value.okWide P W' .any 0 t r) :
    s.post enc P f apart fresh handsOn again W args v W' := by
  have hlt : ∀ p ∈ before, p.block < W.heap.size := fun p hp => hW.lt p hp
  have hold : ∀ p ∈ before, (fun b => decide (b < W.heap.size)) p.block = true := fun p hp => by simpa using hlt p hp
  refine ⟨ds, gs, before, [], pa, pv, hW, hres _ _ _, hargs _ hold, hvars _ hold, World.keptBut_mono (fun p hp => ⟨hp, ?_⟩) (hb.frame (· ∈ before)), fun _ => ?_⟩
  · rw [hps, List.mem_append] at hp
    exact Or.inr hp
  · obtain ⟨_, _, _, _, _, hz, hn⟩ := hW
    refine ⟨hok, _, _, ([] ++ pa) ++ pv, ⟨[] ++ pa, pv, trodAll_append (hargs _ (fun _ _ => rfl)) (hres _ _ _), hvars _ (fun _ _ => rfl), rfl, ?_, ?_⟩, ?_⟩
    · intro b off hp
      have hin : MemPlace.cell b off ∈ before := by rw [hps]; simpa using hp
      rw [hb.frozen (hlt _ hin)]
      exact hz b off hin
    · intro ha
      have := hn ha
      rw [hps] at this
      simpa using this
    · intro p hp _
      rw [hps]
      simpa using hp
end

theorem mm_i64 : IntKind.i64.min = -9223372036854775808 ∧ IntKind.i64.max = 9223372036854775807 := by decide
theorem wf_i64 {z : Int} (h : (Lit.int .i64 z).wf = true) : i64 z := by
  simp only [Lit.wf, Bool.and_eq_true, decide_eq_true_eq, mm_i64.1, mm_i64.2] at h; unfold i64; omega
section
variable {H : Type} {enc : TypeId × Value → H} {w : World}
end

theorem own : ownKnob Tryd.prog.godebug = none := by kernel_rfl
theorem heap_of_var {P : Program} {W : World} {name : String} {g : Nat} {cs : Array Value} {z : Array Value} {T : TypeId} (hg : P.globalNamed name = some g) (hlt : g < P.globals.size) (hrow : ((begin P (fun _ _ => 0) default).world.heap[g]?).bind Obj.row? = some (z, T))
    (hS : W.ShapedOpen P) (hv : W.var? P name = some cs) : W.heap[g]? = some (.cells cs T (0, 0)) := by
  obtain ⟨c, h1, _⟩ := hS.1 g z T hlt hrow
  unfold World.var? at hv
  rw [hg] at hv
  simp only [Option.bind_some, h1, Option.some.injEq] at hv
  rw [h1, hv]
theorem cells_of_strs {H : Type} {enc : TypeId × Value → H} {P : Program} {w : World} {base : Nat} {sp : Nat → Bool} {held : Bool} {fuel : Nat} {t e : TypeId} {n : Nat} {cs : List Value} {ss : List (List UInt8)} {p : List MemPlace}
    (ht : P.underlying t = some (.array n e)) (he : P.underlying e = some .string) (hce : P.cellsOf e = 1) (hct : P.cellsOf t = n)
    (h : DataW.trod enc P w base sp held fuel t cs = some (.agg (ss.map fun s => .lit (.string s)), p)) : cs = ss.map fun s => Value.string ⟨s.toArray⟩ := by
  cases fuel with
  | zero => simp [DataW.trod] at h
  | succ fuel =>
    simp only [DataW.trod, ht, hce, hct, Nat.mul_one] at h
    split at h
    · rename_i hl
      obtain ⟨xs, hm, hx⟩ := Option.map_eq_some_iff.1 h
      have hxs : xs.map (·.1) = ss.map fun s => (DataW.lit (.string s) : DataW H) := by
        have := congrArg Prod.fst hx
        simpa using this
      have hxl : xs.length = n := by simpa using Lib.mapM_length hm
      have hzl : ss.length = n := by
        have := congrArg List.length hxs
        simp at this
        omega
      apply List.ext_getElem?
      intro i
      by_cases hi : i < n
      · obtain ⟨b, hb, hf⟩ := Lib.mapM_at hm i i (by simp [hi])
        obtain ⟨s, hc, rfl, _⟩ := DataW.trod_string he hf
        have h1 : cs[i]? = some (.string s) := by
          have := congrArg (·[0]?) hc
          simpa [List.getElem?_take, List.getElem?_drop] using this
        have h2 : (xs.map (·.1))[i]? = some (DataW.lit (.string s.data.toList) : DataW H) := by simp [hb]
        rw [hxs] at h2
        simp only [List.getElem?_map, Option.map_eq_some_iff, DataW.lit.injEq, Lit.string.injEq] at h2
        obtain ⟨z', hz', rfl⟩ := h2
        simp [h1, hz']
      · rw [List.getElem?_eq_none (by omega), List.getElem?_eq_none (by simp; omega)]
    · cases h
theorem gNames : Tryd.prog.globalNamed "gyre/conf.names" = some 0 := by kernel_rfl
theorem gNamesType : (Tryd.prog.globals[0]?).map (·.type) = some 101 := by kernel_rfl
theorem cells_str : Tryd.prog.cellsOf 9 = 1 := by kernel_rfl
theorem cells_names : Tryd.prog.cellsOf 101 = 7 := by kernel_rfl
theorem gNamesRow : ((begin Tryd.prog (fun _ _ => 0) default).world.heap[0]?).bind Obj.row? = some (#[.string ⟨#[]⟩, .string ⟨#[]⟩, .string ⟨#[]⟩, .string ⟨#[]⟩, .string ⟨#[]⟩, .string ⟨#[]⟩, .string ⟨#[]⟩], 101) := by kernel_rfl
theorem names_of {W : World} {rest : List (String × DataW Unit)} (h : laidMet Tryd.prog (("gyre/conf.names", Proofs.YtlageemaenplfaaDoor.Rows.laid_gyre_conf_names) :: rest) W) : W.var? Tryd.prog "gyre/conf.names" = some cnB.c := by
  obtain ⟨ps, ⟨g', t', cs, fuel, p, q, hg', ht', hvar, hd, _, _⟩, _⟩ := h
  obtain rfl := Option.some.inj (gNames.symm.trans hg')
  obtain rfl := Option.some.inj (gNamesType.symm.trans ht')
  have h9 := cells_of_strs (ss := [[98, 111, 100, 105, 101, 115], [109, 97, 115, 115], [99, 111, 110, 115, 116, 97, 110, 116], [98, 111, 120], [116, 111, 112], [110, 101, 97, 114], [109, 101, 116, 104, 111, 100]]) Tryd.underlying101 Tryd.underlying9 cells_str cells_names hd
  rw [hvar]
  congr 1
  exact Array.ext' h9
theorem gok_names {W : World} (hS : W.ShapedOpen Tryd.prog) (hv : W.var? Tryd.prog "gyre/conf.names" = some cnB.c) : GOK G0 W := fun k b hk => by
  have h := G0_mem hk
  simp [G0L] at h
  obtain ⟨rfl, rfl⟩ := h
  exact heap_of_var gNames (of_decide_eq_true (by kernel_rfl)) gNamesRow hS hv
theorem celln_int : Tryd.prog.cellsOf 3 = 1 := by kernel_rfl
theorem cells_vec : Tryd.prog.cellsOf 40 = 3 := by kernel_rfl
theorem cells_body : Tryd.prog.cellsOf 42 = 6 := by kernel_rfl
theorem cells_bodies : Tryd.prog.cellsOf 25 = 1 := by kernel_rfl
theorem cells_state : Tryd.prog.cellsOf 27 = 2 := by kernel_rfl
theorem ctypes_state : Tryd.prog.cellTypes Tryd.prog.depth 27 = some [3, 25] := by kernel_rfl
section
variable {H : Type} {enc : TypeId × Value → H} {w : World} {base : Nat} {spare : Nat → Bool} {held : Bool}
theorem vec_cells {fuel : Nat} {cs : List Value} {x : DataW H × List MemPlace} (h : DataW.trod enc Tryd.prog w base spare held fuel 40 cs = some x) : cs.length = 3 ∧ ∀ j, j < 3 → ∃ z, cs[j]? = some (.int .i64 z) ∧ i64 z := by
  obtain ⟨xs, m, _, rfl, hl, hxs, hi⟩ := DataW.trod_array Tryd.underlying40 h
  rw [cells_vec] at hl
  refine ⟨hl, fun j hj => ?_⟩
  have h1 := hi j hj
  rw [celln_int, Nat.mul_one, List.getElem?_eq_getElem (by omega)] at h1
  obtain ⟨z, e, _, hw⟩ := DataW.trod_int Tryd.underlying3 h1
  refine ⟨z, ?_, wf_i64 hw⟩
  have := congrArg (·[0]?) e
  simpa [List.getElem?_take, List.getElem?_drop] using this
theorem body_cells {fuel : Nat} {cs : List Value} {x : DataW H × List MemPlace} (h : DataW.trod enc Tryd.prog w base spare held fuel 42 cs = some x) : cs.length = 6 ∧ ∀ j, j < 6 → ∃ z, cs[j]? = some (.int .i64 z) ∧ i64 z := by
  obtain ⟨y0, y1, n, rfl, hl, h0, h1⟩ := trod_struct2 Tryd.underlying42 h
  rw [cells_body] at hl
  simp only [cells_vec] at h0 h1
  refine ⟨hl, fun j hj => ?_⟩
  by_cases c : j < 3
  · obtain ⟨z, e, hz⟩ := (vec_cells h0).2 j c
    refine ⟨z, ?_, hz⟩
    simpa [List.getElem?_take, List.getElem?_drop, c] using e
  · obtain ⟨z, e, hz⟩ := (vec_cells h1).2 (j - 3) (by omega)
    refine ⟨z, ?_, hz⟩
    rw [List.getElem?_take, if_pos (by omega), List.getElem?_drop, show 3 + (j - 3) = j by omega] at e
    exact e
theorem open_bodies {fuel : Nat} {cs : List Value} {x : DataW H × List MemPlace} (h : DataW.trod enc Tryd.prog w 0 (fun _ => true) held fuel 25 cs = some x) :
    cs = [.slice none 0 0] ∨ ∃ (a : Addr) (len cap : Nat) (f : Nat → Int), cs = [.slice (some a) len cap] ∧ len ≤ cap ∧ ∀ j, j < 6 * cap → w.cell? (a.add j) = some (.int .i64 (f j)) ∧ i64 (f j) := by
  rcases Deep.open_slice Tryd.underlying25 h with ⟨h0, _⟩ | ⟨a, len, cap, m, n, D, Pl, rfl, _, hlc, hcm, hm, _, hel⟩
  · exact .inl h0
  right
  rw [if_pos rfl] at hm
  subst hm
  refine ⟨a, len, m, fun j => match w.cell? (a.add j) with | some (.int _ z) => z | _ => 0, rfl, hlc, fun j hj => ?_⟩
  obtain ⟨cs', h1, h2⟩ := hel (j / 6) (by omega)
  rw [cells_body] at h1
  obtain ⟨z, e, hz⟩ := (body_cells h2).2 (j % 6) (by omega)
  unfold World.cells? at h1
  rw [if_pos (Nat.zero_le _)] at h1
  have h3 := mapM_some_get h1 (j % 6) (j % 6) (List.getElem?_range (by omega))
  rw [e, Deep.add_add, show j / 6 * 6 + j % 6 = j by omega] at h3
  dsimp only
  rw [h3]
  exact ⟨rfl, hz⟩
theorem rowAt_str {fits : TypeId → Bool} (h : fits 9 = false) (d c o n : Nat) : rowAt Tryd.prog fits d 9 c o n = false := by
  cases d with
  | zero => rfl
  | succ d => simp [rowAt, h, Tryd.underlying9]
theorem rowAt_names {fits : TypeId → Bool} (h : fits 9 = false) (h2 : fits 101 = false) (d c o n : Nat) : rowAt Tryd.prog fits d 101 c o n = false := by
  cases d with
  | zero => rfl
  | succ d => simp [rowAt, h2, Tryd.underlying101, rowAt_str h]
theorem lies_names (d c o n : Nat) : liesAt Tryd.prog d 101 c o 42 n = false := by
  cases d with
  | zero => rfl
  | succ d =>
    unfold liesAt
    rw [rowAt_names (by kernel_rfl) (by kernel_rfl), Tryd.underlying42]
    rfl
theorem G0_lies : ∀ p ∈ G0L, ∃ t, p.2.T = .ty t ∧ ∀ d c o n, liesAt Tryd.prog d t c o 42 n = false := by
  intro p hp
  unfold G0L at hp
  rcases List.mem_cons.1 hp with rfl | hp
  · exact ⟨_, rfl, lies_names⟩
  cases hp
structure StAt (W : World) (k off n cap : Nat) (b : Blk) (f : Nat → Int) : Prop where
  le : n ≤ cap
  heap : W.heap[k]? = some b.obj0
  fx : b.fx
  raw : ∃ c T fr, b = ⟨c, .raw T fr⟩
  rd : rdI b off (6 * cap) f
  i6 : ∀ j, j < 6 * cap → i64 (f j)
  lies : ∃ row c, W.shape? k = some (row, c) ∧ liesAt Tryd.prog Tryd.prog.depth row (c / Tryd.prog.cellsOf row) off 42 cap = true
theorem StAt.sb {W : World} {k off n cap : Nat} {b : Blk} {f : Nat → Int} (h : StAt W k off n cap b f) (hn : n ≤ 2932031007402) : SB b off n f := ⟨h.rd.le (by have := h.le; omega), h.fx, fun j hj => h.i6 j (by have := h.le; omega), hn⟩
theorem open_state {r : Reach} {b0 : Nat} {v : Value} {d : DataW H} {p : List MemPlace} (hv : Value.okWide Tryd.prog w r b0 27 v) (h : DataW.Trod enc Tryd.prog w 0 (fun _ => true) held 27 v d p) :
    ∃ st, i64 st ∧ (v = .agg #[.int .i64 st, .slice none 0 0] ∨ ∃ (k off n cap : Nat) (b : Blk) (f : Nat → Int), v = .agg #[.int .i64 st, .slice (some ⟨k, off, none⟩) n cap] ∧ StAt w k off n cap b f) := by
  simp only [Value.okWide, Tryd.underlying27] at hv
  obtain ⟨cs, rfl, hsz, ts, hts, _, hall⟩ := hv
  rw [ctypes_state] at hts
  simp only [Option.some.injEq] at hts
  subst hts
  obtain ⟨fuel, hf⟩ := h
  obtain ⟨y0, y1, n, _, hl, h0, h1⟩ := trod_struct2 Tryd.underlying27 hf
  rw [celln_int] at h0
  rw [cells_bodies] at h1
  simp only [Value.cells] at h0 h1
  obtain ⟨st, e0, _, hw⟩ := DataW.trod_int Tryd.underlying3 h0
  rw [cells_state] at hsz
  obtain ⟨c0, c1, rfl⟩ : ∃ c0 c1, cs = #[c0, c1] := by
    obtain ⟨l⟩ := cs
    match l, hsz with
    | [c0, c1], _ => exact ⟨c0, c1, rfl⟩
  simp at e0
  subst e0
  refine ⟨st, wf_i64 hw, ?_⟩
  rcases open_bodies h1 with e1 | ⟨a, len, cap, f, e1, hle, hc⟩
  · simp at e1
    subst e1
    exact .inl rfl
  · simp at e1
    subst e1
    right
    obtain ⟨u, hu, hok⟩ := hall 1 _ rfl
    simp at hu
    subst hu
    simp only [Cell.okWide, Cell.ok, Tryd.underlying25] at hok
    obtain ⟨_, _, _, hsp, row, cells, hsh, hlies⟩ := hok
    obtain ⟨k, off, sp⟩ := a
    simp only at hsp hsh hlies
    subst hsp
    have hsh' := hsh
    unfold World.shape? at hsh'
    split at hsh'
    · rename_i c T fr hh
      simp only [Option.some.injEq, Prod.mk.injEq] at hsh'
      obtain ⟨rfl, rfl⟩ := hsh'
      refine ⟨k, off, len, cap, ⟨c, .raw T fr⟩, f, rfl, hle, hh, trivial, ⟨c, T, fr, rfl⟩, fun j hj => ?_, fun j hj => (hc j hj).2, T, _, hsh, hlies⟩
      have h2 := (hc j hj).1
      rw [Addr.add_lit] at h2
      simpa [World.cell?, hh] using h2
    · cases hsh'
end
theorem trodAll_stays {H : Type} {enc : TypeId × Value → H} {P : Program} {base : Nat} (hl : laidOutB P = true) {W W' : World} {sp' : Nat → Bool} : ∀ (ts : List TypeId) (vs : List Value) (ds : List (DataW H)) (ps : List MemPlace), (∀ t ∈ ts, P.readableRec t = true ∧ t < P.types.size) →
    DataW.TrodAll enc P W base (fun _ => true) true ts vs ds ps → (∀ p ∈ ps, W.sameAt W' p) → (∀ p ∈ ps, sp' p.block = true) → DataW.TrodAll enc P W' base sp' true ts vs ds ps
  | [], [], [], _, _, h, _, _ => h
  | t :: _, _ :: _, _ :: _, _, hT, ⟨p, q, h1, h2, e⟩, hm, hs => ⟨p, q, WideElems.Trod_stays hl (hT t (by simp)).1 (hT t (by simp)).2 h1 (fun x hx => hm x (by rw [e]; exact List.mem_append_left _ hx)) (fun x hx => hs x (by rw [e]; exact List.mem_append_left _ hx)),
      trodAll_stays hl _ _ _ _ (fun t ht => hT t (List.mem_cons_of_mem _ ht)) h2 (fun x hx => hm x (by rw [e]; exact List.mem_append_right _ hx)) (fun x hx => hs x (by rw [e]; exact List.mem_append_right _ hx)), e⟩
theorem laid_out : laidOutB Tryd.prog = true := by kernel_rfl
theorem bytes_body : Tryd.prog.bytesOf 42 = 48 := by kernel_rfl
theorem cap_le {H : Type} {enc : TypeId × Value → H} {w : World} {held : Bool} {st : Int} {a : Addr} {n cap : Nat} {d : DataW H} {p : List MemPlace} (h : DataW.Trod enc Tryd.prog w 0 (fun _ => true) held 27 (.agg #[.int .i64 st, .slice (some a) n cap]) d p) (hw : ∀ x ∈ d.weights Tryd.prog 27, x ≤ reachBytes) : cap ≤ 2932031007402 := by
  obtain ⟨fuel, hf⟩ := h
  obtain ⟨y0, y1, m, hx, hl, h0, h1⟩ := trod_struct2 Tryd.underlying27 hf
  rw [cells_bodies] at h1
  simp only [Value.cells] at h1
  rcases Deep.open_slice Tryd.underlying25 h1 with ⟨e1, _⟩ | ⟨a', len, cap', m', n', D, Pl, e1, _, hlc, hcm, hm, hy1, _⟩
  · simp at e1
  · simp at e1
    obtain ⟨rfl, rfl, rfl⟩ := e1
    rw [if_pos rfl] at hm
    subst hm
    simp only [Prod.mk.injEq] at hx
    have hd := hx.1
    rw [hd, hy1] at hw
    have := hw ((n + (m' - n)) * 48) (by
      simp only [DataW.weights, Tryd.underlying27]
      simp [DataW.weightsEach, DataW.weights, Tryd.underlying25, bytes_body])
    unfold reachBytes at this
    omega
theorem StAt.ne {W : World} {k off n cap : Nat} {b : Blk} {f : Nat → Int} (h : StAt W k off n cap b f) (hg : GOK G0 W) : ∀ g c, G0 g = some c → k ≠ g := fun g c hc e => by
  have h1 := hg g c hc
  obtain ⟨t, ht, hl'⟩ := G0_lies _ (G0_mem hc)
  obtain ⟨row, q, hsh, hl⟩ := h.lies
  rw [e] at hsh
  unfold World.shape? at hsh
  rw [h1] at hsh
  obtain ⟨cc, T⟩ := c
  simp only at ht
  subst ht
  simp only [Blk.obj0, Option.some.injEq, Prod.mk.injEq] at hsh
  obtain ⟨rfl, rfl⟩ := hsh
  rw [hl'] at hl
  cases hl
theorem fun_state {P : Program} {G : Hp} {fn : FuncId} {args : Array Value} {b : Blk} {v : Value} {W : World} {k : Nat} (hGF : GFlat G) (hF : Fun P G fn args (hpL G [(100, b)]) (keys [(100, b)]) (.ret v [])) (hv : flatV v = true) (hgok : GOK G W) (hfx : b.fx) (hk : W.heap[k]? = some b.obj0) (hne : ∀ g c, G g = some c → k ≠ g) :
    CallsS P fn (args.map (ren fun q => if q = 100 then k else q)) W fun e W' => e = .returned v ∧ Below W.heap.size W W' := by
  have er : rst (hpL G [(100, b)]) (keys [(100, b)]) = hpL G [(100, b)] := LOk.rst hGF
  have hobj : ∀ r, b.obj r = b.obj0 := fun r => by
    obtain ⟨c, T⟩ := b
    cases T with
    | ty t => exact Blk.obj_flat hfx
    | raw t fr => rfl
    | mp => exact hfx.elim
  have hmem : ∀ q c, hpL G [(100, b)] q = some c → (q = 100 ∧ c = b) ∨ (q < 100 ∧ G q = some c) := fun q c hq => by
    rcases hpL_mem hq with h | h
    · simp at h; exact .inl h
    · exact .inr ⟨(hGF q c h).1, h⟩
  have hrun := hF.run (fun q => if q = 100 then k else q) W hgok ?_ ?_ ?_
  · refine hrun.mono fun e W' h => ?_
    obtain ⟨he, ht⟩ := h
    rw [flatV_ren hv] at he
    exact ⟨he, ht.os, ht.tape, ht.output, ht.size, fun q hq => ht.same q hq (by simp)⟩
  · rw [er]
    intro q c hq
    rcases hmem q c hq with ⟨rfl, rfl⟩ | ⟨hlt, hG⟩
    · exact ⟨by simp only [if_true]; rw [hobj]; exact hk, Blk.fx_ids hfx _⟩
    · refine ⟨?_, Blk.flat_ids (hGF q c hG).2⟩
      have e1 : (fun q => if q = 100 then k else q) q = q := if_neg (by omega)
      rw [e1, hgok q c hG]
      congr 1
      obtain ⟨cc, T⟩ := c
      cases T with
      | ty t => exact (Blk.obj_flat (hGF q _ hG).2).symm
      | raw t fr => rfl
      | mp => exact (Blk.obj_flat (hGF q _ hG).2).symm
  · rw [er]
    intro q q' hq hq' e
    have e : (if q = 100 then k else q) = if q' = 100 then k else q' := e
    unfold dom at hq hq'
    cases h1 : hpL G [(100, b)] q with
    | none => exact absurd h1 hq
    | some c =>
      cases h2 : hpL G [(100, b)] q' with
      | none => exact absurd h2 hq'
      | some c' =>
        rcases hmem q c h1 with ⟨rfl, _⟩ | ⟨hlt, hG⟩ <;> rcases hmem q' c' h2 with ⟨rfl, _⟩ | ⟨hlt', hG'⟩
        · rfl
        · rw [if_pos rfl, if_neg (by omega)] at e; exact absurd e (hne _ _ hG')
        · rw [if_neg (by omega), if_pos rfl] at e; exact absurd e.symm (hne _ _ hG)
        · rw [if_neg (by omega), if_neg (by omega)] at e; exact e
  · intro q hq _
    exact if_neg (by omega)
section
variable {H : Type} {enc : TypeId × Value → H} {w : World} {base : Nat} {spare : Nat → Bool} {held : Bool}
end
theorem raw_same {W : World} {k : Nat} {b b' : Blk} (h : W.heap[k]? = some b.obj0) (h' : W.heap[k]? = some b'.obj0) (r : ∃ c T fr, b = ⟨c, .raw T fr⟩) (r' : ∃ c T fr, b' = ⟨c, .raw T fr⟩) : b = b' := by
  obtain ⟨c, T, fr, rfl⟩ := r
  obtain ⟨c', T', fr', rfl⟩ := r'
  rw [h] at h'
  simp only [Blk.obj0, Option.some.injEq, Obj.cells.injEq] at h'
  obtain ⟨rfl, rfl, rfl⟩ := h'
  rfl
theorem fun_L {P : Program} {G : Hp} {fn : FuncId} {args : Array Value} {L : List (Nat × Blk)} {v : Value} {W : World} (r : Nat → Nat) (hGF : GFlat G) (hF : Fun P G fn args (hpL G L) (keys L) (.ret v [])) (hv : flatV v = true) (hgok : GOK G W) (hL : LOk L 200) (hfx : ∀ p ∈ L, p.2.fx)
    (hr : ∀ p ∈ L, W.heap[r p.1]? = some p.2.obj0) (hne : ∀ p ∈ L, ∀ g c, G g = some c → r p.1 ≠ g) (hinj : ∀ p ∈ L, ∀ q ∈ L, r p.1 = r q.1 → p.1 = q.1) (hlow : ∀ q, q < 100 → r q = q) :
    CallsS P fn (args.map (ren r)) W fun e W' => e = .returned v ∧ Below W.heap.size W W' := by
  have er : rst (hpL G L) (keys L) = hpL G L := LOk.rst hGF
  have hobj : ∀ (b : Blk), b.fx → ∀ r, b.obj r = b.obj0 := fun b hb r => by
    obtain ⟨c, T⟩ := b
    cases T with
    | ty t => exact Blk.obj_flat hb
    | raw t fr => rfl
    | mp => exact hb.elim
  have hmem : ∀ q c, hpL G L q = some c → (q, c) ∈ L ∨ (q < 100 ∧ G q = some c) := fun q c hq => by
    rcases hpL_mem hq with h | h
    · exact .inl h
    · exact .inr ⟨(hGF q c h).1, h⟩
  have hrun := hF.run r W hgok ?_ ?_ ?_
  · refine hrun.mono fun e W' h => ?_
    obtain ⟨he, ht⟩ := h
    rw [flatV_ren hv] at he
    exact ⟨he, ht.os, ht.tape, ht.output, ht.size, fun q hq => ht.same q hq (by simp)⟩
  · rw [er]
    intro q c hq
    rcases hmem q c hq with h | ⟨hlt, hG⟩
    · exact ⟨by rw [hobj c (hfx _ h)]; exact hr _ h, Blk.fx_ids (hfx _ h) _⟩
    · refine ⟨?_, Blk.flat_ids (hGF q c hG).2⟩
      rw [hlow q hlt, hgok q c hG]
      congr 1
      obtain ⟨cc, T⟩ := c
      cases T with
      | ty t => exact (Blk.obj_flat (hGF q _ hG).2).symm
      | raw t fr => rfl
      | mp => exact (Blk.obj_flat (hGF q _ hG).2).symm
  · rw [er]
    intro q q' hq hq' e
    unfold dom at hq hq'
    cases h1 : hpL G L q with
    | none => exact absurd h1 hq
    | some c =>
      cases h2 : hpL G L q' with
      | none => exact absurd h2 hq'
      | some c' =>
        rcases hmem q c h1 with h | ⟨hlt, hG⟩ <;> rcases hmem q' c' h2 with h' | ⟨hlt', hG'⟩
        · exact hinj _ h _ h' e
        · rw [hlow q' hlt'] at e; exact absurd e (hne _ h _ _ hG')
        · rw [hlow q hlt] at e; exact absurd e.symm (hne _ h' _ _ hG)
        · rw [hlow q hlt, hlow q' hlt'] at e; exact e
  · intro q hq _
    exact hlow q hq
def nmL (k k2 q : Nat) : Nat := if q = 100 then k else if q = 108 then k2 else q
theorem nmL_low (k k2 q : Nat) (h : q < 100) : nmL k k2 q = q := by
  unfold nmL
  rw [if_neg (by omega), if_neg (by omega)]
@[simp] theorem nmL_a (k k2 : Nat) : nmL k k2 100 = k := by simp [nmL]
@[simp] theorem nmL_b (k k2 : Nat) : nmL k k2 108 = k2 := by simp [nmL]
theorem fun_two {P : Program} {G : Hp} {fn : FuncId} {args : Nat → Array Value} {b b2 : Blk} {v : Value} {W : World} {k k2 : Nat} (hGF : GFlat G) (hF : ∀ L ks, LTwo G L ks b b2 → Fun P G fn (args ks) (hpL G L) (keys L) (.ret v [])) (hv : flatV v = true) (hgok : GOK G W)
    (h1 : b.fx) (h2 : b2.fx) (w1 : W.heap[k]? = some b.obj0) (w2 : W.heap[k2]? = some b2.obj0) (r1 : ∃ c T fr, b = ⟨c, .raw T fr⟩) (r2 : ∃ c T fr, b2 = ⟨c, .raw T fr⟩) (n1 : ∀ g c, G g = some c → k ≠ g) (n2 : ∀ g c, G g = some c → k2 ≠ g) {args' : Array Value}
    (ha : ∀ ks, ks = 100 ∧ k = k2 ∨ ks = 108 → (args ks).map (ren (nmL k k2)) = args') : CallsS P fn args' W fun e W' => e = .returned v ∧ Below W.heap.size W W' := by
  by_cases e : k = k2
  · subst e
    obtain rfl := raw_same w1 w2 r1 r2
    have := fun_L (nmL k k) hGF (hF _ _ (LTwo.one h1)) hv hgok (LTwo.one (G := G) h1).ok (LTwo.one (G := G) h1).fx (by simp [w1]) (by simp; exact n1) (by simp) (nmL_low k k)
    rwa [ha 100 (.inl ⟨rfl, rfl⟩)] at this
  · have := fun_L (nmL k k2) hGF (hF _ _ (LTwo.two h1 h2)) hv hgok (LTwo.two (G := G) h1 h2).ok (LTwo.two (G := G) h1 h2).fx (by simp [w1, w2]) (by simp; exact ⟨n1, n2⟩) (by simp; exact ⟨fun h => e h, fun h => e h.symm⟩) (nmL_low k k2)
    rwa [ha 108 (.inr rfl)] at this
theorem cells_ints : Tryd.prog.cellsOf 22 = 1 := by kernel_rfl
theorem cells_conf : Tryd.prog.cellsOf 24 = 6 := by kernel_rfl
theorem ctypes_conf : Tryd.prog.cellTypes Tryd.prog.depth 24 = some [22, 3, 3, 3, 3, 3] := by kernel_rfl
theorem bytes_int : Tryd.prog.bytesOf 3 = 8 := by kernel_rfl
theorem lies_namesI (d c o n : Nat) : liesAt Tryd.prog d 101 c o 3 n = false := by
  cases d with
  | zero => rfl
  | succ d =>
    unfold liesAt
    rw [rowAt_names (by kernel_rfl) (by kernel_rfl), Tryd.underlying3]
    rfl
theorem G0_liesI : ∀ p ∈ G0L, ∃ t, p.2.T = .ty t ∧ ∀ d c o n, liesAt Tryd.prog d t c o 3 n = false := by
  intro p hp
  unfold G0L at hp
  rcases List.mem_cons.1 hp with rfl | hp
  · exact ⟨_, rfl, lies_namesI⟩
  cases hp
structure CfAt (W : World) (k off n cap : Nat) (b : Blk) (f : Nat → Int) : Prop where
  le : n ≤ cap
  heap : W.heap[k]? = some b.obj0
  fx : b.fx
  raw : ∃ c T fr, b = ⟨c, .raw T fr⟩
  rd : rdI b off cap f
  i6 : ∀ j, j < cap → i64 (f j)
  lies : ∃ row c, W.shape? k = some (row, c) ∧ liesAt Tryd.prog Tryd.prog.depth row (c / Tryd.prog.cellsOf row) off 3 cap = true
theorem CfAt.mb {W : World} {k off n cap : Nat} {b : Blk} {f : Nat → Int} (h : CfAt W k off n cap b f) (hn : n ≤ 17592186044416) : MB b off n f := ⟨h.rd.le h.le, h.fx, fun j hj => h.i6 j (Nat.lt_of_lt_of_le hj h.le), hn⟩
theorem CfAt.ne {W : World} {k off n cap : Nat} {b : Blk} {f : Nat → Int} (h : CfAt W k off n cap b f) (hg : GOK G0 W) : ∀ g c, G0 g = some c → k ≠ g := fun g c hc e => by
  have h1 := hg g c hc
  obtain ⟨t, ht, hl'⟩ := G0_liesI _ (G0_mem hc)
  obtain ⟨row, q, hsh, hl⟩ := h.lies
  rw [e] at hsh
  unfold World.shape? at hsh
  rw [h1] at hsh
  obtain ⟨cc, T⟩ := c
  simp only at ht
  subst ht
  simp only [Blk.obj0, Option.some.injEq, Prod.mk.injEq] at hsh
  obtain ⟨rfl, rfl⟩ := hsh
  rw [hl'] at hl
  cases hl
section
variable {H : Type} {enc : TypeId × Value → H} {w : World} {held : Bool}
theorem trod_struct6 {P : Program} {base : Nat} {spare : Nat → Bool} {t : TypeId} {f0 f1 f2 f3 f4 f5 : Field} {fuel : Nat} {cs : List Value} {x : DataW H × List MemPlace} (ht : P.underlying t = some (.struct #[f0, f1, f2, f3, f4, f5])) (h : DataW.trod enc P w base spare held fuel t cs = some x) :
    ∃ y0 y1 y2 y3 y4 y5 n, x.1 = .agg [y0.1, y1.1, y2.1, y3.1, y4.1, y5.1] ∧ DataW.trod enc P w base spare held n f0.type ((cs.drop f0.offset).take (P.cellsOf f0.type)) = some y0 ∧ DataW.trod enc P w base spare held n f1.type ((cs.drop f1.offset).take (P.cellsOf f1.type)) = some y1 ∧
      DataW.trod enc P w base spare held n f2.type ((cs.drop f2.offset).take (P.cellsOf f2.type)) = some y2 ∧ DataW.trod enc P w base spare held n f3.type ((cs.drop f3.offset).take (P.cellsOf f3.type)) = some y3 ∧ DataW.trod enc P w base spare held n f4.type ((cs.drop f4.offset).take (P.cellsOf f4.type)) = some y4 ∧ DataW.trod enc P w base spare held n f5.type ((cs.drop f5.offset).take (P.cellsOf f5.type)) = some y5 := by
  obtain ⟨xs, n, _, hx, hl, hlen, hf⟩ := DataW.trod_struct ht h
  match xs, hlen with
  | [y0, y1, y2, y3, y4, y5], _ => exact ⟨y0, y1, y2, y3, y4, y5, n, by rw [hx]; rfl, by simpa using hf 0 f0 rfl, by simpa using hf 1 f1 rfl, by simpa using hf 2 f2 rfl, by simpa using hf 3 f3 rfl, by simpa using hf 4 f4 rfl, by simpa using hf 5 f5 rfl⟩
theorem trod_conf {fuel : Nat} {cs : List Value} {x : DataW H × List MemPlace} (h : DataW.trod enc Tryd.prog w 0 (fun _ => true) held fuel 24 cs = some x) :
    ∃ y0 y1 y2 y3 y4 y5 n, x.1 = .agg [y0.1, y1.1, y2.1, y3.1, y4.1, y5.1] ∧ DataW.trod enc Tryd.prog w 0 (fun _ => true) held n 22 ((cs.drop 0).take 1) = some y0 ∧ DataW.trod enc Tryd.prog w 0 (fun _ => true) held n 3 ((cs.drop 1).take 1) = some y1 ∧ DataW.trod enc Tryd.prog w 0 (fun _ => true) held n 3 ((cs.drop 2).take 1) = some y2 ∧
      DataW.trod enc Tryd.prog w 0 (fun _ => true) held n 3 ((cs.drop 3).take 1) = some y3 ∧ DataW.trod enc Tryd.prog w 0 (fun _ => true) held n 3 ((cs.drop 4).take 1) = some y4 ∧ DataW.trod enc Tryd.prog w 0 (fun _ => true) held n 3 ((cs.drop 5).take 1) = some y5 := by
  obtain ⟨y0, y1, y2, y3, y4, y5, n, hx, f0, f1, f2, f3, f4, f5⟩ := trod_struct6 Tryd.underlying24 h
  rw [cells_ints] at f0
  rw [celln_int] at f1 f2 f3 f4 f5
  exact ⟨y0, y1, y2, y3, y4, y5, n, hx, f0, f1, f2, f3, f4, f5⟩
theorem open_conf {r : Reach} {b0 : Nat} {v : Value} {d : DataW H} {p : List MemPlace} (hv : Value.okWide Tryd.prog w r b0 24 v) (h : DataW.Trod enc Tryd.prog w 0 (fun _ => true) held 24 v d p) :
    ∃ g bx tp nr md, i64 g ∧ i64 bx ∧ i64 tp ∧ i64 nr ∧ i64 md ∧ (v = cfV (.slice none 0 0) g bx tp nr md ∨ ∃ (k off n cap : Nat) (b : Blk) (f : Nat → Int), v = cfV (.slice (some ⟨k, off, none⟩) n cap) g bx tp nr md ∧ CfAt w k off n cap b f) := by
  simp only [Value.okWide, Tryd.underlying24] at hv
  obtain ⟨cs, rfl, hsz, ts, hts, _, hall⟩ := hv
  rw [ctypes_conf] at hts
  simp only [Option.some.injEq] at hts
  subst hts
  obtain ⟨fuel, hf⟩ := h
  obtain ⟨y0, y1, y2, y3, y4, y5, n, _, h0, h1, h2, h3, h4, h5⟩ := trod_conf hf
  simp only [Value.cells] at h0 h1 h2 h3 h4 h5
  obtain ⟨g, e1, _, w1⟩ := DataW.trod_int Tryd.underlying3 h1
  obtain ⟨bx, e2, _, w2⟩ := DataW.trod_int Tryd.underlying3 h2
  obtain ⟨tp, e3, _, w3⟩ := DataW.trod_int Tryd.underlying3 h3
  obtain ⟨nr, e4, _, w4⟩ := DataW.trod_int Tryd.underlying3 h4
  obtain ⟨md, e5, _, w5⟩ := DataW.trod_int Tryd.underlying3 h5
  rw [cells_conf] at hsz
  obtain ⟨c0, c1, c2, c3, c4, c5, rfl⟩ : ∃ c0 c1 c2 c3 c4 c5, cs = #[c0, c1, c2, c3, c4, c5] := by
    obtain ⟨l⟩ := cs
    match l, hsz with
    | [c0, c1, c2, c3, c4, c5], _ => exact ⟨c0, c1, c2, c3, c4, c5, rfl⟩
  simp at e1 e2 e3 e4 e5
  subst e1 e2 e3 e4 e5
  refine ⟨g, bx, tp, nr, md, wf_i64 w1, wf_i64 w2, wf_i64 w3, wf_i64 w4, wf_i64 w5, ?_⟩
  rcases open_ints Tryd.underlying22 Tryd.underlying3 celln_int h0 with ⟨e0, _⟩ | ⟨a, len, cap, zs, e0, _, hle, _, hzl, _, hc, hw⟩
  · simp at e0
    subst e0
    exact .inl rfl
  · simp at e0
    subst e0
    right
    rw [if_pos rfl] at hzl
    obtain ⟨u, hu, hok⟩ := hall 0 _ rfl
    simp at hu
    subst hu
    simp only [Cell.okWide, Cell.ok, Tryd.underlying22] at hok
    obtain ⟨_, _, _, hsp, row, cells, hsh, hlies⟩ := hok
    obtain ⟨k, off, sp⟩ := a
    simp only at hsp hsh hlies
    subst hsp
    have hsh' := hsh
    unfold World.shape? at hsh'
    split at hsh'
    · rename_i c T fr hh
      simp only [Option.some.injEq, Prod.mk.injEq] at hsh'
      obtain ⟨rfl, rfl⟩ := hsh'
      refine ⟨k, off, len, cap, ⟨c, .raw T fr⟩, fun j => zs.getD j 0, rfl, hle, hh, trivial, ⟨c, T, fr, rfl⟩, fun j hj => ?_, fun j hj => ?_, T, _, hsh, hlies⟩
      · have h2 := hc j (by omega)
        rw [Addr.add_lit] at h2
        simpa [World.cell?, hh] using h2
      · have hjz : j < zs.length := by omega
        exact wf_i64 (hw _ (by simp [List.getD, List.getElem?_eq_getElem hjz]))
    · cases hsh'
theorem cap_leC {g bx tp nr md : Int} {a : Addr} {n cap : Nat} {d : DataW H} {p : List MemPlace} (h : DataW.Trod enc Tryd.prog w 0 (fun _ => true) held 24 (cfV (.slice (some a) n cap) g bx tp nr md) d p) (hw : ∀ x ∈ d.weights Tryd.prog 24, x ≤ reachBytes) : cap ≤ 17592186044416 := by
  obtain ⟨fuel, hf⟩ := h
  obtain ⟨y0, y1, y2, y3, y4, y5, m, hx, h0, _⟩ := trod_conf hf
  simp only [cfV, Value.cells] at h0
  rcases Deep.open_slice Tryd.underlying22 h0 with ⟨e1, _⟩ | ⟨a', len, cap', m', n', D, Pl, e1, _, hlc, hcm, hm, hy1, _⟩
  · simp at e1
  · simp at e1
    obtain ⟨rfl, rfl, rfl⟩ := e1
    rw [if_pos rfl] at hm
    subst hm
    rw [show d = _ from hx, hy1] at hw
    have := hw ((n + (m' - n)) * 8) (by
      simp only [DataW.weights, Tryd.underlying24]
      simp [DataW.weightsEach, DataW.weights, Tryd.underlying22, bytes_int])
    unfold reachBytes at this
    omega
end
end Go.Gy
