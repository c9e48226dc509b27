/-
  Lemmas of this claim, in their order (GyEO, GyES, GyET, GyEB, GyEC, GyEG, GyLI, GyEU, GyEV, GyFD, GyFG, GyFC, GyCG, GyFE, GyFJ, GyFK, GyFA, GyFM, GyEW, GyEX, GyFL, GyH).
  Conditions: those of each theorem.
-/
import Derived.Test.YtfedlkjhfnlnbaaGreatDoorGz06
import Derived.Stop.LaidErr
import Derived.Test.YtfedlkjhfnlnbaaGreatDoorCards
import Derived.Test.YtfedlkjhfnlnbaaGreatDoorTie
import Derived.WalkKit
import Derived.ProofKit
import Derived.OpenShut
import Derived.Below
import Derived.ChangeSame
import Derived.Deep.DeepHandedRow
import Derived.Lib.LaidTab
namespace Go.Gy
set_option linter.unusedSimpArgs false
set_option linter.unusedVariables false
open Go Go.RowKit Go.Proofs
def EPairsR (nk ks off n cap off2 n2 cap2 : Nat) (g bx tp nr md st : Int) (v : Value) (ns : List (Nat × Blk)) : Prop :=
  v = .func (.func 70) #[] #[.pointer (some ⟨nk + 1, 0, none⟩), .pointer (some ⟨nk, 0, none⟩)] ∧ ns = [(nk, cfB (.slice (some ⟨100, off, none⟩) n cap) g bx tp nr md), (nk + 1, stB' st ks off2 n2 cap2)]
theorem epairsR_key {nk ks off n cap off2 n2 cap2 : Nat} {g bx tp nr md st : Int} {v : Value} {ns : List (Nat × Blk)} (h : EPairsR nk ks off n cap off2 n2 cap2 g bx tp nr md st v ns) : ∀ k ∈ keys ns, nk ≤ k ∧ k < nk + 2 := by
  obtain ⟨rfl, rfl⟩ := h
  intro k hk
  simp [keys] at hk
  omega
theorem epairs_L (L : List (Nat × Blk)) (ks : Nat) (bm bs : Blk) (hT : LTwo G0 L ks bm bs) (off n cap off2 n2 cap2 : Nat) (g bx tp nr md st : Int) :
    FunS Tryz.prog G0 37 #[cfV (.slice (some ⟨100, off, none⟩) n cap) g bx tp nr md, .agg #[.int .i64 st, .slice (some ⟨ks, off2, none⟩) n2 cap2]] (hpL G0 L) (keys L) (EPairsR 1000 ks off n cap off2 n2 cap2 g bx tp nr md st) := by
  refine newS_ofL (B := 200) G0F Tryz.func37 rfl Tryz.call37 hT.ok ?_ ?_ (by simp [Tryz.ntmps37]) (by omega) ?_
  · simp [idsV, idsA, idsF, ids0, hT.ia, hT.ib, cfV]
  · rintro v ns ⟨rfl, rfl⟩
    have ha : extD (fun k => k ∈ keys L) [(1000, cfB (.slice (some ⟨100, off, none⟩) n cap) g bx tp nr md), (1000 + 1, stB' st ks off2 n2 cap2)] 100 := .inl hT.ia
    have hb : extD (fun k => k ∈ keys L) [(1000, cfB (.slice (some ⟨100, off, none⟩) n cap) g bx tp nr md), (1000 + 1, stB' st ks off2 n2 cap2)] ks := .inl hT.ib
    refine ⟨by simp [idsV, idsA, idsF, ids0, extD, keys], ?_, ?_⟩
    · intro p hp
      simp only [List.mem_cons, List.not_mem_nil, or_false] at hp
      rcases hp with rfl | rfl
      · exact ⟨by omega, by simp [cfB, ids_lit, idsF, ids0]; exact ha⟩
      · exact ⟨by omega, by simp [stB', ids_lit, idsF, ids0]; exact hb⟩
    · intro k b c h1 h2
      simp at h1 h2
      rcases h1 with ⟨e1, rfl⟩ | ⟨e1, rfl⟩ <;> rcases h2 with ⟨e2, rfl⟩ | ⟨e2, rfl⟩ <;> first | rfl | omega
  intro C hC hC0 hY
  have hA := hT.a
  have hS := hT.s
  have hne := hT.ne
  have hLow := hT.low
  have hks := hT.k1
  have hks2 := hT.k2
  unfold cfV
  repeat' (first | apply gwS | simp only [wN, wM, Nat.reduceAdd, Nat.reduceMul] | ((first | refine gwR [] ?_ | refine gwD [] ?_); intro Q hQ hP; simp [hC, hY, hA, hS, hne]; (first | refine hQ _ _ _ _ (by kernel_rfl) ?_ | refine hP _ _ (by kernel_rfl) fun _ => ?_); clear hQ hP Q) | apply gwB | apply gwT | apply gwK | apply gwE | apply gwG | apply gwL | simp only [blockG_exit] | (refine gwC ?_ ?_ <;> (intro hb; first | (cases hb; done) | skip)))
  refine ⟨.inr trivial, keep_of G0F (by (intro p hp; have hpb := hT.ok.big p hp; first | rfl | (simp (disch := omega) only [addB, upd_other, hpL_cons, hpL_nil, if_neg, updL, List.cons_append, List.nil_append] <;> done))) (by (intro k hk; first | exact hLow k hk | (simp (disch := omega) only [hLow, addB, List.mem_cons, List.not_mem_nil, or_false, upd_other, hpL_cons, hpL_nil, if_neg, updL, List.cons_append, List.nil_append] <;> done))), _, _, fun k => if k = 1000 then 200 else if k = 1001 then 208 else k, ⟨rfl, rfl⟩, fun k hk => ?_, by simp, by simp, by simp [Tryz.results37, ren, renA, renF, ren0], ?_⟩
  · dsimp only
    rw [if_neg (by omega), if_neg (by omega)]
  · have h1 : ¬ ks = 1000 := by omega
    have h2 : ¬ ks = 1001 := by omega
    simp [cfB, stB', Blk.rn, renF, ren0, h1, h2]
theorem eless_fun (t a : Int) : Fun Tryz.prog G0 41 #[wd a, .pointer (some ⟨100, 0, none⟩)] (hpL G0 [(100, wb t)]) (keys [(100, wb t)]) (.ret (wd (t - a)) []) := by
  refine fun_ofL (B := 200) G0F Tryz.func41 rfl Tryz.call41 ⟨by simp, by simp [keys], by simp [wb, ids_lit, idsF, ids0]⟩ ?_ (flatV_ids (by simp)) (by simp) (by simp) (by simp [Tryz.ntmps41]) (by omega) ?_
  · intro x hx
    simp only [List.mem_toArray, List.mem_cons, List.not_mem_nil, or_false] at hx
    rcases hx with rfl | rfl
    · exact flatV_ids (by simp)
    · simp [idsV, idsA, idsF, ids0, keys]
  intro C hC hC0 hY
  repeat' (first | apply gwS | simp only [wN, wM, Nat.reduceAdd, Nat.reduceMul] | ((first | refine gwR [] ?_ | refine gwD [] ?_); intro Q hQ hP; simp [hC, hY, wb]; (first | refine hQ _ _ _ _ (by kernel_rfl) ?_ | refine hP _ _ (by kernel_rfl) fun _ => ?_); clear hQ hP Q) | apply gwB | apply gwT | apply gwK | apply gwE | apply gwG | apply gwL | simp only [blockG_exit] | (refine gwC ?_ ?_ <;> (intro hb; first | (cases hb; done) | skip)))
  refine ⟨.inr rfl, by simp [Tryz.results41], keep_of G0F (by simp [wb]) (by (intro k hk; first | rfl | (simp (disch := omega) only [addB, List.mem_cons, List.not_mem_nil, or_false, upd_other, hpL_cons, hpL_nil, if_neg, updL] <;> done)))⟩
theorem epairsR_rr {nk nk' ks off n cap off2 n2 cap2 : Nat} {g bx tp nr md st : Int} {ρ : Nat → Nat} (h100 : ρ 100 = 100) (hk : ρ ks = ks) (h0 : ρ nk = nk') (h1 : ρ (nk + 1) = nk' + 1) :
    RR ρ (EPairsR nk ks off n cap off2 n2 cap2 g bx tp nr md st) = EPairsR nk' ks off n cap off2 n2 cap2 g bx tp nr md st := by
  funext v ns
  apply propext
  constructor
  · rintro ⟨v0, ns0, ⟨rfl, rfl⟩, rfl, rfl⟩
    exact ⟨by simp [ren, renA, renF, ren0, h0, h1], by simp [rnL, cfB, stB', Blk.rn, renF, ren0, h100, hk, h0, h1]⟩
  · rintro ⟨rfl, rfl⟩
    exact ⟨_, _, ⟨rfl, rfl⟩, by simp [ren, renA, renF, ren0, h0, h1], by simp [rnL, cfB, stB', Blk.rn, renF, ren0, h100, hk, h0, h1]⟩
theorem epairs_at (nk : Nat) (hnk : 200 ≤ nk) (L : List (Nat × Blk)) (ks : Nat) (bm bs : Blk) (hT : LTwo G0 L ks bm bs) (off n cap off2 n2 cap2 : Nat) (g bx tp nr md st : Int) :
    FunS Tryz.prog G0 37 #[cfV (.slice (some ⟨100, off, none⟩) n cap) g bx tp nr md, .agg #[.int .i64 st, .slice (some ⟨ks, off2, none⟩) n2 cap2]] (hpL G0 L) (keys L) (EPairsR nk ks off n cap off2 n2 cap2 g bx tp nr md st) := by
  have e2 : ∀ j, j < 2 → up2 nk (1000 + j) = nk + j := fun j hj => by unfold up2; rw [if_pos (by omega), if_pos (by omega)]; omega
  have hlow : ∀ k, k < 1000 → up2 nk k = k := fun k hk => by unfold up2; rw [if_neg (by omega)]
  have hk2 := hT.k2
  have hid : ∀ k ∈ keys L, up2 nk k = k := fun k hk => by
    obtain ⟨p, hp, rfl⟩ := mem_keys.1 hk
    have := hT.ok.big p hp
    exact hlow _ (by omega)
  have hkk : ∀ v ns, EPairsR 1000 ks off n cap off2 n2 cap2 g bx tp nr md st v ns → ∀ k ∈ keys ns, ∃ j, j < 2 ∧ k = 1000 + j := by
    intro v ns hV k hk
    have := epairsR_key hV k hk
    exact ⟨k - 1000, by omega, by omega⟩
  refine (epairs_L L ks bm bs hT off n cap off2 n2 cap2 g bx tp nr md st).mvL (hp' := hpL G0 L) (rs' := keys L) G0F hT.ok (up2 nk) (fun k hk => hlow k (by omega)) ?_ ?_ (epairsR_rr (hlow _ (by omega)) (hlow _ (by omega)) (e2 0 (by omega)) (e2 1 (by omega))) hT.ok.low ?_ ?_ (fun v ns hV k hk => ?_) (fun v ns hV k hk l hl e => ?_)
  · simp [cfV, ren, renA, renF, ren0, hlow 100 (by omega), hlow ks (by omega)]
  · rw [List.map_congr_left hid]; simp
  · intro p hp
    have hb := hT.ok.big p hp
    rw [hlow p.1 (by omega), Blk.fx_rn (hT.fx p hp)]
    exact ⟨hb.1, hT.mem p hp⟩
  · intro k hk l hl e
    rw [hid k hk, hid l hl] at e
    exact e
  · obtain ⟨j, hj, rfl⟩ := hkk v ns hV k hk
    rw [e2 j hj]
    refine ⟨by omega, fun h => ?_⟩
    obtain ⟨p, hp, e⟩ := mem_keys.1 h
    have := hT.ok.big p hp
    omega
  · obtain ⟨j, hj, rfl⟩ := hkk v ns hV k hk
    obtain ⟨i, hi, rfl⟩ := hkk v ns hV l hl
    rw [e2 j hj, e2 i hi] at e
    omega
def epIx : Nat → List (Nat × Nat)
  | 2 => [(1, 0)]
  | 3 => [(1, 0), (2, 0), (2, 1)]
  | 4 => [(1, 0), (2, 0), (2, 1), (3, 0), (3, 1), (3, 2)]
  | _ => []
theorem epXs_map (fm fs : Nat → Int) {n : Nat} (hn : 1 ≤ n ∧ n ≤ 4) : epXs fm fs n = (epIx n).map fun p => epV fm fs p.1 p.2 := by
  have : n = 1 ∨ n = 2 ∨ n = 3 ∨ n = 4 := by omega
  rcases this with rfl | rfl | rfl | rfl <;> rfl
theorem epIx_lt {n : Nat} {p : Nat × Nat} (h : p ∈ epIx n) : p.2 < p.1 ∧ p.1 < n := by
  unfold epIx at h
  split at h <;> simp at h
  · subst h; simp
  · rcases h with rfl | rfl | rfl <;> simp
  · rcases h with rfl | rfl | rfl | rfl | rfl | rfl <;> simp
theorem epIx_len (n : Nat) : (epIx n).length ≤ 6 := by
  unfold epIx
  split <;> simp
def pS (F : Nat → Nat → Int) : List (Nat × Nat) → Int
  | [] => 0
  | p :: l => F p.1 p.2 + pS F l
theorem pS_app (F : Nat → Nat → Int) : ∀ l m, pS F (l ++ m) = pS F l + pS F m
  | [], m => by simp [pS]
  | p :: l, m => by
    simp only [List.cons_append, pS, pS_app F l m]
    omega
theorem pS_take (F : Nat → Nat → Int) {l : List (Nat × Nat)} {j : Nat} (hj : j < l.length) : pS F (l.take (j + 1)) = pS F (l.take j) + F l[j].1 l[j].2 := by
  rw [show l.take (j + 1) = l.take j ++ [l[j]] by simp, pS_app]
  simp [pS]
theorem sum2_ep (F : Nat → Nat → Int) {n : Nat} (hn : 1 ≤ n ∧ n ≤ 4) : sum2 F n = pS F (epIx n) := by
  have : n = 1 ∨ n = 2 ∨ n = 3 ∨ n = 4 := by omega
  rcases this with rfl | rfl | rfl | rfl <;> simp only [sum2, sumN, pS, epIx] <;> omega
theorem epairs_it (L : List (Nat × Blk)) (ks : Nat) (bm bs : Blk) (hT : LTwo G0 L ks bm bs) (off n cap off2 cap2 : Nat) (fm fs : Nat → Int) (hm : MB bm off n fm) (hSb : SB bs off2 n fs) (hcap : n ≤ cap2) (hn : 1 ≤ n ∧ n ≤ 4) (g bx tp nr md st : Int) :
    IterK Tryz.prog G0 70 #[.pointer (some ⟨208, 0, none⟩), .pointer (some ⟨200, 0, none⟩)] (hpL G0 (enM L ks off n cap off2 n cap2 g bx tp nr md st)) (keys (enM L ks off n cap off2 n cap2 g bx tp nr md st)) ((epIx n).map fun p => epV fm fs p.1 p.2) := by
  rw [← epXs_map fm fs hn]
  have : n = 1 ∨ n = 2 ∨ n = 3 ∨ n = 4 := by omega
  rcases this with rfl | rfl | rfl | rfl
  · exact epairs_it1 L ks bm bs hT off cap off2 cap2 fm fs hm hSb hcap g bx tp nr md st
  · exact epairs_it2 L ks bm bs hT off cap off2 cap2 fm fs hm hSb hcap g bx tp nr md st
  · exact epairs_it3 L ks bm bs hT off cap off2 cap2 fm fs hm hSb hcap g bx tp nr md st
  · exact epairs_it4 L ks bm bs hT off cap off2 cap2 fm fs hm hSb hcap g bx tp nr md st
def potLo (g : Int) (fm fs : Nat → Int) (n : Nat) : Int := sum2 (fun i k => enLo g (fm i) (fm k) (esqF fs i k)) n
def potHi (g : Int) (fm fs : Nat → Int) (n : Nat) : Int := sum2 (fun i k => enHi g (fm i) (fm k) (esqF fs i k)) n
def potZ (fs : Nat → Int) (n : Nat) : Int := sum2 (fun i k => if esqF fs i k = 0 then 1 else 0) n
theorem esq_in {st : Int} {fs : Nat → Int} {n : Nat} (hr : rightB st fs n = true) {i k : Nat} (hi : i < n) (hk : k < n) : 0 ≤ esqF fs i k ∧ esqF fs i k ≤ 13194139533312 := by
  obtain ⟨⟨⟨_, a0, a1⟩, ⟨_, b0, b1⟩, ⟨_, c0, c1⟩⟩, _⟩ := right_b hr hi
  obtain ⟨⟨⟨_, d0, d1⟩, ⟨_, e0, e1⟩, ⟨_, f0, f1⟩⟩, _⟩ := right_b hr hk
  have s0 := sq_in (a := fs (6 * i) - fs (6 * k)) (m := 2097152) ⟨by omega, by omega, by omega⟩
  have s1 := sq_in (a := fs (6 * i + 1) - fs (6 * k + 1)) (m := 2097152) ⟨by omega, by omega, by omega⟩
  have s2 := sq_in (a := fs (6 * i + 2) - fs (6 * k + 2)) (m := 2097152) ⟨by omega, by omega, by omega⟩
  unfold esqF f2V
  split <;> omega
theorem ewi1_t {most n0 : Int} (h : (1 ≤ n0 ∧ n0 ≤ most)) : Fun Tryz.prog G0 24 #[.int .i64 most, .slice (some ⟨100, 0, none⟩) 1 1] (hpL G0 [(100, ⟨#[.int .i64 n0], .ty 3⟩)]) [100] (.ret (.bool true) []) := by
  have e := ewithin1 most n0
  rw [decide_eq_true h] at e
  exact e
theorem ewi1_f {most n0 : Int} (h : ¬ ((1 ≤ n0 ∧ n0 ≤ most))) : Fun Tryz.prog G0 24 #[.int .i64 most, .slice (some ⟨100, 0, none⟩) 1 1] (hpL G0 [(100, ⟨#[.int .i64 n0], .ty 3⟩)]) [100] (.ret (.bool false) []) := by
  have e := ewithin1 most n0
  rw [decide_eq_false h] at e
  exact e
theorem ewi2_t {most n0 n1 : Int} (h : (1 ≤ n0 ∧ n0 ≤ most) ∧ (1 ≤ n1 ∧ n1 ≤ most)) : Fun Tryz.prog G0 24 #[.int .i64 most, .slice (some ⟨100, 0, none⟩) 2 2] (hpL G0 [(100, ⟨#[.int .i64 n0, .int .i64 n1], .ty 3⟩)]) [100] (.ret (.bool true) []) := by
  have e := ewithin2 most n0 n1
  rw [decide_eq_true h] at e
  exact e
theorem ewi2_f {most n0 n1 : Int} (h : ¬ ((1 ≤ n0 ∧ n0 ≤ most) ∧ (1 ≤ n1 ∧ n1 ≤ most))) : Fun Tryz.prog G0 24 #[.int .i64 most, .slice (some ⟨100, 0, none⟩) 2 2] (hpL G0 [(100, ⟨#[.int .i64 n0, .int .i64 n1], .ty 3⟩)]) [100] (.ret (.bool false) []) := by
  have e := ewithin2 most n0 n1
  rw [decide_eq_false h] at e
  exact e
set_option maxHeartbeats 1000000 in
theorem epair_ok {g m w q : Int} (h : EIn g m w q) (hq : 0 < q) : Ret Tryz.prog G0 7 #[.int .i64 g, .int .i64 m, .int .i64 w, .int .i64 q] (.tuple #[.int .i64 (enLo g m w q), .int .i64 (enHi g m w q), .int .i64 0]) := by
  refine ret_of G0F Tryz.func7 rfl Tryz.call7 (by simp) (by simp) (by simp [Tryz.ntmps7]) ?_
  intro C hC hC0 hY
  have k1 := h.gm
  have k2 := h.gmw
  have k3 := h.a
  have k4 := h.aa
  have k5 := h.lo hq
  have k6 := h.hi hq
  have k7 := (h.holds hq).1
  have k8 := lolo_bd k5.1 k5.2 h.q0 h.q1
  have k9 := en_hi_eq g m w q
  have hw1 : (1 ≤ g ∧ g ≤ 1048576) := ⟨h.g0, h.g1⟩
  have hw2 : (1 ≤ m ∧ m ≤ 1024) ∧ (1 ≤ w ∧ w ≤ 1024) := ⟨⟨h.m0, h.m1⟩, h.w0, h.w1⟩
  have hq0 : ¬ q < 0 := by omega
  have hq1 : ¬ 13194139533312 < q := by have := h.q1; omega
  have iq : i64 q := ⟨by omega, by omega⟩
  have eA : enA g m w = g * m * w * 1048576 := rfl
  have eL : enLo g m w q = isq (enA g m w * enA g m w / q) := rfl
  have iA : i64 (enA g m w) := ⟨by omega, by omega⟩
  have iL : i64 (enLo g m w q) := ⟨by omega, by omega⟩
  have wA := i64_wr iA
  have wL := i64_wr iL
  have wq := i64_wr iq
  have wAA : wr (enA g m w * enA g m w) := ⟨Int.le_trans (by decide) k4.1, Int.lt_of_le_of_lt k4.2 (by decide)⟩
  have w2 : wr (enLo g m w q * enLo g m w q) := ⟨Int.le_trans (by decide) k8.1, Int.lt_of_le_of_lt k8.2.1 (by decide)⟩
  have w3 : wr (enLo g m w q * enLo g m w q * q) := ⟨Int.le_trans (by decide) k8.2.2.1, Int.lt_of_le_of_lt k8.2.2.2 (by decide)⟩
  have b1 : Int.bmod (g * m) 18446744073709551616 = g * m := bm (by omega) (by omega)
  have b2 : Int.bmod (g * m * w) 18446744073709551616 = g * m * w := bm (by omega) (by omega)
  have b3 : Int.bmod (g * m * w * 1048576) 18446744073709551616 = g * m * w * 1048576 := bm (by omega) (by omega)
  have b4 : Int.bmod (enLo g m w q + 1) 18446744073709551616 = enLo g m w q + 1 := bm (by omega) (by omega)
  have s1 := wr_sz wA
  have s2 := wr_sz wAA
  have s3 := wr_sz wL
  rw [k9]
  generalize enLo g m w q = R at *
  simp only [eA] at iA wA wAA k4 s1 s2 eL k7 k9 ⊢
  have hR := eL.symm
  clear eL eA
  by_cases c : R * R * q = g * m * w * 1048576 * (g * m * w * 1048576)
  · rw [if_pos c]
    repeat' (first | apply gwS | simp only [wN, wM, Nat.reduceAdd, Nat.reduceMul] | ((first | refine gwR [24] ?_ | refine gwD [24] ?_); intro Q hQ hP; simp [hC, hY, hq0, hq1, b1, b2, b3, b4, iq, iA, iL, wA, wL, wq, wAA, w2, w3, s1, s2, s3, hR, k4.1, hq, c]; (repeat ((first | (refine heapK_slA (ewi1_t hw1) (by simp) rfl (by simp) (by simp) ?_) | (refine heapK_slA (ewi2_t hw2) (by simp) rfl (by simp) (by simp) ?_)); try simp [hC, hY, hq0, hq1, b1, b2, b3, b4, iq, iA, iL, wA, wL, wq, wAA, w2, w3, s1, s2, s3, hR, k4.1, hq, c])); (first | refine hQ _ _ _ _ (by kernel_rfl) ?_ | refine hP _ _ (by kernel_rfl) fun _ => ?_); clear hQ hP Q) | apply gwB | apply gwT | apply gwK | apply gwE | apply gwG | apply gwL | simp only [blockG_exit] | (refine gwC ?_ ?_ <;> (intro hb; first | (cases hb; done) | skip)))
    refine GW_scope' 0 (fun _ _ => False) rfl (fun _ _ h => h.elim) ?_
    intro _
    repeat' (first | apply gwS | simp only [wN, wM, Nat.reduceAdd, Nat.reduceMul] | ((first | refine gwR [24] ?_ | refine gwD [24] ?_); intro Q hQ hP; simp [hC, hY, hq0, hq1, b1, b2, b3, b4, iq, iA, iL, wA, wL, wq, wAA, w2, w3, s1, s2, s3, hR, k4.1, hq, c]; (repeat ((first | (refine heapK_slA (ewi1_t hw1) (by simp) rfl (by simp) (by simp) ?_) | (refine heapK_slA (ewi2_t hw2) (by simp) rfl (by simp) (by simp) ?_)); try simp [hC, hY, hq0, hq1, b1, b2, b3, b4, iq, iA, iL, wA, wL, wq, wAA, w2, w3, s1, s2, s3, hR, k4.1, hq, c])); (first | refine hQ _ _ _ _ (by kernel_rfl) ?_ | refine hP _ _ (by kernel_rfl) fun _ => ?_); clear hQ hP Q) | apply gwB | apply gwT | apply gwK | apply gwE | apply gwG | apply gwL | simp only [blockG_exit] | (refine gwC ?_ ?_ <;> (intro hb; first | (cases hb; done) | skip)))
    refine ⟨.inr trivial, ?_⟩
    simp [Tryz.results7]
  · rw [if_neg c]
    repeat' (first | apply gwS | simp only [wN, wM, Nat.reduceAdd, Nat.reduceMul] | ((first | refine gwR [24] ?_ | refine gwD [24] ?_); intro Q hQ hP; simp [hC, hY, hq0, hq1, b1, b2, b3, b4, iq, iA, iL, wA, wL, wq, wAA, w2, w3, s1, s2, s3, hR, k4.1, hq, c]; (repeat ((first | (refine heapK_slA (ewi1_t hw1) (by simp) rfl (by simp) (by simp) ?_) | (refine heapK_slA (ewi2_t hw2) (by simp) rfl (by simp) (by simp) ?_)); try simp [hC, hY, hq0, hq1, b1, b2, b3, b4, iq, iA, iL, wA, wL, wq, wAA, w2, w3, s1, s2, s3, hR, k4.1, hq, c])); (first | refine hQ _ _ _ _ (by kernel_rfl) ?_ | refine hP _ _ (by kernel_rfl) fun _ => ?_); clear hQ hP Q) | apply gwB | apply gwT | apply gwK | apply gwE | apply gwG | apply gwL | simp only [blockG_exit] | (refine gwC ?_ ?_ <;> (intro hb; first | (cases hb; done) | skip)))
    refine GW_scope' 0 (fun _ _ => False) rfl (fun _ _ h => h.elim) ?_
    intro _
    repeat' (first | apply gwS | simp only [wN, wM, Nat.reduceAdd, Nat.reduceMul] | ((first | refine gwR [24] ?_ | refine gwD [24] ?_); intro Q hQ hP; simp [hC, hY, hq0, hq1, b1, b2, b3, b4, iq, iA, iL, wA, wL, wq, wAA, w2, w3, s1, s2, s3, hR, k4.1, hq, c]; (repeat ((first | (refine heapK_slA (ewi1_t hw1) (by simp) rfl (by simp) (by simp) ?_) | (refine heapK_slA (ewi2_t hw2) (by simp) rfl (by simp) (by simp) ?_)); try simp [hC, hY, hq0, hq1, b1, b2, b3, b4, iq, iA, iL, wA, wL, wq, wAA, w2, w3, s1, s2, s3, hR, k4.1, hq, c])); (first | refine hQ _ _ _ _ (by kernel_rfl) ?_ | refine hP _ _ (by kernel_rfl) fun _ => ?_); clear hQ hP Q) | apply gwB | apply gwT | apply gwK | apply gwE | apply gwG | apply gwL | simp only [blockG_exit] | (refine gwC ?_ ?_ <;> (intro hb; first | (cases hb; done) | skip)))
    refine ⟨.inr trivial, ?_⟩
    simp [Tryz.results7, b4]
@[simp] theorem rOf_ze (a : Int) (K : Value → Prop) : callK Tryz.prog G0 27 #[Value.agg #[.int .u64 (wi (a) 0), .int .u64 (wi (a) 1), .int .u64 (wi (a) 2), .int .u64 (wi (a) 3)], .agg #[.int .u64 0, .int .u64 0, .int .u64 0, .int .u64 0]] K ↔ K (.tuple #[wd 0, .int .i64 30]) := by
  have := rOf_z a 0 rfl K
  simpa [wi_zero] using this
set_option maxHeartbeats 1000000 in
theorem epair_b1 {g m w q : Int} (hw1 : ¬ (1 ≤ g ∧ g ≤ 1048576)) : Ret Tryz.prog G0 7 #[.int .i64 g, .int .i64 m, .int .i64 w, .int .i64 q] (.tuple #[.int .i64 0, .int .i64 0, .int .i64 2]) := by
  refine ret_of G0F Tryz.func7 rfl Tryz.call7 (by simp) (by simp) (by simp [Tryz.ntmps7]) ?_
  intro C hC hC0 hY
  repeat' (first | apply gwS | simp only [wN, wM, Nat.reduceAdd, Nat.reduceMul] | ((first | refine gwR [24] ?_ | refine gwD [24] ?_); intro Q hQ hP; simp [hC, hY]; (repeat ((first | (refine heapK_slA (ewi1_f hw1) (by simp) rfl (by simp) (by simp) ?_)); try simp [hC, hY])); (first | refine hQ _ _ _ _ (by kernel_rfl) ?_ | refine hP _ _ (by kernel_rfl) fun _ => ?_); clear hQ hP Q) | apply gwB | apply gwT | apply gwK | apply gwE | apply gwG | apply gwL | simp only [blockG_exit] | (refine gwC ?_ ?_ <;> (intro hb; first | (cases hb; done) | skip)))
  refine GW_scope' 0 (fun m s => s = ⟨tsL [(10, .int .i64 2)], hpL G0 [], 1000, 0⟩) rfl ?_ ?_
  · rintro m _ rfl
    repeat' (first | apply gwS | simp only [wN, wM, Nat.reduceAdd, Nat.reduceMul] | ((first | refine gwR [] ?_ | refine gwD [] ?_); intro Q hQ hP; simp [hC, hY]; (first | refine hQ _ _ _ _ (by kernel_rfl) ?_ | refine hP _ _ (by kernel_rfl) fun _ => ?_); clear hQ hP Q) | apply gwB | apply gwT | apply gwK | apply gwE | apply gwG | apply gwL | simp only [blockG_exit] | (refine gwC ?_ ?_ <;> (intro hb; first | (cases hb; done) | skip)))
    refine ⟨.inr trivial, ?_⟩
    simp [Tryz.results7]
  · intro _
    repeat' (first | apply gwS | simp only [wN, wM, Nat.reduceAdd, Nat.reduceMul] | ((first | refine gwR [24] ?_ | refine gwD [24] ?_); intro Q hQ hP; simp [hC, hY]; (repeat ((first | (refine heapK_slA (ewi1_f hw1) (by simp) rfl (by simp) (by simp) ?_)); try simp [hC, hY])); (first | refine hQ _ _ _ _ (by kernel_rfl) ?_ | refine hP _ _ (by kernel_rfl) fun _ => ?_); clear hQ hP Q) | apply gwB | apply gwT | apply gwK | apply gwE | apply gwG | apply gwL | simp only [blockG_exit] | (refine gwC ?_ ?_ <;> (intro hb; first | (cases hb; done) | skip)))
    refine ⟨rfl, _, 0, weakL _ 1000 hC G0F (m0 := []) hC0 (by omega) ?_ ?_ ?_, rfl⟩
    · simp [idsV, idsA, idsF, ids0, dom]
    · simp [ids_lit, idsF, ids0, dom]
    · simp
set_option maxHeartbeats 1000000 in
theorem epair_b2 {g m w q : Int} (hw1 : (1 ≤ g ∧ g ≤ 1048576)) (hw2 : ¬ ((1 ≤ m ∧ m ≤ 1024) ∧ (1 ≤ w ∧ w ≤ 1024))) : Ret Tryz.prog G0 7 #[.int .i64 g, .int .i64 m, .int .i64 w, .int .i64 q] (.tuple #[.int .i64 0, .int .i64 0, .int .i64 2]) := by
  refine ret_of G0F Tryz.func7 rfl Tryz.call7 (by simp) (by simp) (by simp [Tryz.ntmps7]) ?_
  intro C hC hC0 hY
  repeat' (first | apply gwS | simp only [wN, wM, Nat.reduceAdd, Nat.reduceMul] | ((first | refine gwR [24] ?_ | refine gwD [24] ?_); intro Q hQ hP; simp [hC, hY]; (repeat ((first | (refine heapK_slA (ewi1_t hw1) (by simp) rfl (by simp) (by simp) ?_) | (refine heapK_slA (ewi2_f hw2) (by simp) rfl (by simp) (by simp) ?_)); try simp [hC, hY])); (first | refine hQ _ _ _ _ (by kernel_rfl) ?_ | refine hP _ _ (by kernel_rfl) fun _ => ?_); clear hQ hP Q) | apply gwB | apply gwT | apply gwK | apply gwE | apply gwG | apply gwL | simp only [blockG_exit] | (refine gwC ?_ ?_ <;> (intro hb; first | (cases hb; done) | skip)))
  refine GW_scope' 0 (fun m s => s = ⟨tsL [(10, .int .i64 2)], hpL G0 [], 1000, 0⟩) rfl ?_ ?_
  · rintro m _ rfl
    repeat' (first | apply gwS | simp only [wN, wM, Nat.reduceAdd, Nat.reduceMul] | ((first | refine gwR [] ?_ | refine gwD [] ?_); intro Q hQ hP; simp [hC, hY]; (first | refine hQ _ _ _ _ (by kernel_rfl) ?_ | refine hP _ _ (by kernel_rfl) fun _ => ?_); clear hQ hP Q) | apply gwB | apply gwT | apply gwK | apply gwE | apply gwG | apply gwL | simp only [blockG_exit] | (refine gwC ?_ ?_ <;> (intro hb; first | (cases hb; done) | skip)))
    refine ⟨.inr trivial, ?_⟩
    simp [Tryz.results7]
  · intro _
    repeat' (first | apply gwS | simp only [wN, wM, Nat.reduceAdd, Nat.reduceMul] | ((first | refine gwR [24] ?_ | refine gwD [24] ?_); intro Q hQ hP; simp [hC, hY]; (repeat ((first | (refine heapK_slA (ewi1_t hw1) (by simp) rfl (by simp) (by simp) ?_) | (refine heapK_slA (ewi2_f hw2) (by simp) rfl (by simp) (by simp) ?_)); try simp [hC, hY])); (first | refine hQ _ _ _ _ (by kernel_rfl) ?_ | refine hP _ _ (by kernel_rfl) fun _ => ?_); clear hQ hP Q) | apply gwB | apply gwT | apply gwK | apply gwE | apply gwG | apply gwL | simp only [blockG_exit] | (refine gwC ?_ ?_ <;> (intro hb; first | (cases hb; done) | skip)))
    refine ⟨rfl, _, 0, weakL _ 1000 hC G0F (m0 := []) hC0 (by omega) ?_ ?_ ?_, rfl⟩
    · simp [idsV, idsA, idsF, ids0, dom]
    · simp [ids_lit, idsF, ids0, dom]
    · simp
set_option maxHeartbeats 1000000 in
theorem epair_b3 {g m w q : Int} (hw1 : (1 ≤ g ∧ g ≤ 1048576)) (hw2 : (1 ≤ m ∧ m ≤ 1024) ∧ (1 ≤ w ∧ w ≤ 1024)) (h3 : q < 0) : Ret Tryz.prog G0 7 #[.int .i64 g, .int .i64 m, .int .i64 w, .int .i64 q] (.tuple #[.int .i64 0, .int .i64 0, .int .i64 2]) := by
  refine ret_of G0F Tryz.func7 rfl Tryz.call7 (by simp) (by simp) (by simp [Tryz.ntmps7]) ?_
  intro C hC hC0 hY
  repeat' (first | apply gwS | simp only [wN, wM, Nat.reduceAdd, Nat.reduceMul] | ((first | refine gwR [24] ?_ | refine gwD [24] ?_); intro Q hQ hP; simp [hC, hY, h3]; (repeat ((first | (refine heapK_slA (ewi1_t hw1) (by simp) rfl (by simp) (by simp) ?_) | (refine heapK_slA (ewi2_t hw2) (by simp) rfl (by simp) (by simp) ?_)); try simp [hC, hY, h3])); (first | refine hQ _ _ _ _ (by kernel_rfl) ?_ | refine hP _ _ (by kernel_rfl) fun _ => ?_); clear hQ hP Q) | apply gwB | apply gwT | apply gwK | apply gwE | apply gwG | apply gwL | simp only [blockG_exit] | (refine gwC ?_ ?_ <;> (intro hb; first | (cases hb; done) | skip)))
  refine GW_scope' 0 (fun m s => s = ⟨tsL [(10, .int .i64 2)], hpL G0 [], 1000, 0⟩) rfl ?_ ?_
  · rintro m _ rfl
    repeat' (first | apply gwS | simp only [wN, wM, Nat.reduceAdd, Nat.reduceMul] | ((first | refine gwR [] ?_ | refine gwD [] ?_); intro Q hQ hP; simp [hC, hY]; (first | refine hQ _ _ _ _ (by kernel_rfl) ?_ | refine hP _ _ (by kernel_rfl) fun _ => ?_); clear hQ hP Q) | apply gwB | apply gwT | apply gwK | apply gwE | apply gwG | apply gwL | simp only [blockG_exit] | (refine gwC ?_ ?_ <;> (intro hb; first | (cases hb; done) | skip)))
    refine ⟨.inr trivial, ?_⟩
    simp [Tryz.results7]
  · intro _
    repeat' (first | apply gwS | simp only [wN, wM, Nat.reduceAdd, Nat.reduceMul] | ((first | refine gwR [24] ?_ | refine gwD [24] ?_); intro Q hQ hP; simp [hC, hY, h3]; (repeat ((first | (refine heapK_slA (ewi1_t hw1) (by simp) rfl (by simp) (by simp) ?_) | (refine heapK_slA (ewi2_t hw2) (by simp) rfl (by simp) (by simp) ?_)); try simp [hC, hY, h3])); (first | refine hQ _ _ _ _ (by kernel_rfl) ?_ | refine hP _ _ (by kernel_rfl) fun _ => ?_); clear hQ hP Q) | apply gwB | apply gwT | apply gwK | apply gwE | apply gwG | apply gwL | simp only [blockG_exit] | (refine gwC ?_ ?_ <;> (intro hb; first | (cases hb; done) | skip)))
    refine ⟨rfl, _, 0, weakL _ 1000 hC G0F (m0 := []) hC0 (by omega) ?_ ?_ ?_, rfl⟩
    · simp [idsV, idsA, idsF, ids0, dom]
    · simp [ids_lit, idsF, ids0, dom]
    · simp
set_option maxHeartbeats 1000000 in
theorem epair_b4 {g m w q : Int} (hw1 : (1 ≤ g ∧ g ≤ 1048576)) (hw2 : (1 ≤ m ∧ m ≤ 1024) ∧ (1 ≤ w ∧ w ≤ 1024)) (h3 : ¬ q < 0) (h4 : 13194139533312 < q) : Ret Tryz.prog G0 7 #[.int .i64 g, .int .i64 m, .int .i64 w, .int .i64 q] (.tuple #[.int .i64 0, .int .i64 0, .int .i64 2]) := by
  refine ret_of G0F Tryz.func7 rfl Tryz.call7 (by simp) (by simp) (by simp [Tryz.ntmps7]) ?_
  intro C hC hC0 hY
  repeat' (first | apply gwS | simp only [wN, wM, Nat.reduceAdd, Nat.reduceMul] | ((first | refine gwR [24] ?_ | refine gwD [24] ?_); intro Q hQ hP; simp [hC, hY, h3, h4]; (repeat ((first | (refine heapK_slA (ewi1_t hw1) (by simp) rfl (by simp) (by simp) ?_) | (refine heapK_slA (ewi2_t hw2) (by simp) rfl (by simp) (by simp) ?_)); try simp [hC, hY, h3, h4])); (first | refine hQ _ _ _ _ (by kernel_rfl) ?_ | refine hP _ _ (by kernel_rfl) fun _ => ?_); clear hQ hP Q) | apply gwB | apply gwT | apply gwK | apply gwE | apply gwG | apply gwL | simp only [blockG_exit] | (refine gwC ?_ ?_ <;> (intro hb; first | (cases hb; done) | skip)))
  refine GW_scope' 0 (fun m s => s = ⟨tsL [(10, .int .i64 2)], hpL G0 [], 1000, 0⟩) rfl ?_ ?_
  · rintro m _ rfl
    repeat' (first | apply gwS | simp only [wN, wM, Nat.reduceAdd, Nat.reduceMul] | ((first | refine gwR [] ?_ | refine gwD [] ?_); intro Q hQ hP; simp [hC, hY]; (first | refine hQ _ _ _ _ (by kernel_rfl) ?_ | refine hP _ _ (by kernel_rfl) fun _ => ?_); clear hQ hP Q) | apply gwB | apply gwT | apply gwK | apply gwE | apply gwG | apply gwL | simp only [blockG_exit] | (refine gwC ?_ ?_ <;> (intro hb; first | (cases hb; done) | skip)))
    refine ⟨.inr trivial, ?_⟩
    simp [Tryz.results7]
  · intro _
    repeat' (first | apply gwS | simp only [wN, wM, Nat.reduceAdd, Nat.reduceMul] | ((first | refine gwR [24] ?_ | refine gwD [24] ?_); intro Q hQ hP; simp [hC, hY, h3, h4]; (repeat ((first | (refine heapK_slA (ewi1_t hw1) (by simp) rfl (by simp) (by simp) ?_) | (refine heapK_slA (ewi2_t hw2) (by simp) rfl (by simp) (by simp) ?_)); try simp [hC, hY, h3, h4])); (first | refine hQ _ _ _ _ (by kernel_rfl) ?_ | refine hP _ _ (by kernel_rfl) fun _ => ?_); clear hQ hP Q) | apply gwB | apply gwT | apply gwK | apply gwE | apply gwG | apply gwL | simp only [blockG_exit] | (refine gwC ?_ ?_ <;> (intro hb; first | (cases hb; done) | skip)))
    refine ⟨rfl, _, 0, weakL _ 1000 hC G0F (m0 := []) hC0 (by omega) ?_ ?_ ?_, rfl⟩
    · simp [idsV, idsA, idsF, ids0, dom]
    · simp [ids_lit, idsF, ids0, dom]
    · simp
set_option maxHeartbeats 1000000 in
theorem epair_z {g m w q : Int} (h : EIn g m w q) (hq : q = 0) : Ret Tryz.prog G0 7 #[.int .i64 g, .int .i64 m, .int .i64 w, .int .i64 q] (.tuple #[.int .i64 0, .int .i64 0, .int .i64 30]) := by
  refine ret_of G0F Tryz.func7 rfl Tryz.call7 (by simp) (by simp) (by simp [Tryz.ntmps7]) ?_
  intro C hC hC0 hY
  subst hq
  have k1 := h.gm
  have k2 := h.gmw
  have hw1 : (1 ≤ g ∧ g ≤ 1048576) := ⟨h.g0, h.g1⟩
  have hw2 : (1 ≤ m ∧ m ≤ 1024) ∧ (1 ≤ w ∧ w ≤ 1024) := ⟨⟨h.m0, h.m1⟩, h.w0, h.w1⟩
  have hq0 : ¬ (0 : Int) < 0 := by omega
  have hq1 : ¬ (13194139533312 : Int) < 0 := by omega
  have i0 : i64 0 := by decide
  have z0 : (0 : Int) = 0 := rfl
  have b1 : Int.bmod (g * m) 18446744073709551616 = g * m := bm (by omega) (by omega)
  have b2 : Int.bmod (g * m * w) 18446744073709551616 = g * m * w := bm (by omega) (by omega)
  have b3 : Int.bmod (g * m * w * 1048576) 18446744073709551616 = g * m * w * 1048576 := bm (by omega) (by omega)
  have iA : i64 (g * m * w * 1048576) := ⟨by omega, by omega⟩
  have s1 := wr_sz (i64_wr iA)
  have k4 := h.aa
  have wAA : wr (g * m * w * 1048576 * (g * m * w * 1048576)) := ⟨Int.le_trans (by decide) k4.1, Int.lt_of_le_of_lt k4.2 (by decide)⟩
  have s2 := wr_sz wAA
  repeat' (first | apply gwS | simp only [wN, wM, Nat.reduceAdd, Nat.reduceMul] | ((first | refine gwR [24] ?_ | refine gwD [24] ?_); intro Q hQ hP; simp [hC, hY, hq0, hq1, b1, b2, b3, i0, z0, iA, s1, s2]; (repeat ((first | (refine heapK_slA (ewi1_t hw1) (by simp) rfl (by simp) (by simp) ?_) | (refine heapK_slA (ewi2_t hw2) (by simp) rfl (by simp) (by simp) ?_)); try simp [hC, hY, hq0, hq1, b1, b2, b3, i0, z0, iA, s1, s2])); (first | refine hQ _ _ _ _ (by kernel_rfl) ?_ | refine hP _ _ (by kernel_rfl) fun _ => ?_); clear hQ hP Q) | apply gwB | apply gwT | apply gwK | apply gwE | apply gwG | apply gwL | simp only [blockG_exit] | (refine gwC ?_ ?_ <;> (intro hb; first | (cases hb; done) | skip)))
  refine GW_scope' 0 (fun m s => s = ⟨tsL [(10, .int .i64 30)], hpL G0 [], 1000, 0⟩) rfl ?_ ?_
  · rintro m _ rfl
    repeat' (first | apply gwS | simp only [wN, wM, Nat.reduceAdd, Nat.reduceMul] | ((first | refine gwR [] ?_ | refine gwD [] ?_); intro Q hQ hP; simp [hC, hY]; (first | refine hQ _ _ _ _ (by kernel_rfl) ?_ | refine hP _ _ (by kernel_rfl) fun _ => ?_); clear hQ hP Q) | apply gwB | apply gwT | apply gwK | apply gwE | apply gwG | apply gwL | simp only [blockG_exit] | (refine gwC ?_ ?_ <;> (intro hb; first | (cases hb; done) | skip)))
    refine ⟨.inr trivial, ?_⟩
    simp [Tryz.results7]
  · intro _
    repeat' (first | apply gwS | simp only [wN, wM, Nat.reduceAdd, Nat.reduceMul] | ((first | refine gwR [24] ?_ | refine gwD [24] ?_); intro Q hQ hP; simp [hC, hY, hq0, hq1, b1, b2, b3, i0, z0, iA, s1, s2]; (repeat ((first | (refine heapK_slA (ewi1_t hw1) (by simp) rfl (by simp) (by simp) ?_) | (refine heapK_slA (ewi2_t hw2) (by simp) rfl (by simp) (by simp) ?_)); try simp [hC, hY, hq0, hq1, b1, b2, b3, i0, z0, iA, s1, s2])); (first | refine hQ _ _ _ _ (by kernel_rfl) ?_ | refine hP _ _ (by kernel_rfl) fun _ => ?_); clear hQ hP Q) | apply gwB | apply gwT | apply gwK | apply gwE | apply gwG | apply gwL | simp only [blockG_exit] | (refine gwC ?_ ?_ <;> (intro hb; first | (cases hb; done) | skip)))
    refine ⟨rfl, _, 0, weakL _ 1000 hC G0F (m0 := []) hC0 (by omega) ?_ ?_ ?_, rfl⟩
    · simp [idsV, idsA, idsF, ids0, dom]
    · simp [ids_lit, idsF, ids0, dom]
    · simp
theorem epair_bad {g m w q : Int} (h : ¬ EIn g m w q) : Ret Tryz.prog G0 7 #[.int .i64 g, .int .i64 m, .int .i64 w, .int .i64 q] (.tuple #[.int .i64 0, .int .i64 0, .int .i64 2]) := by
  by_cases h1 : (1 ≤ g ∧ g ≤ 1048576)
  · by_cases h2 : (1 ≤ m ∧ m ≤ 1024) ∧ (1 ≤ w ∧ w ≤ 1024)
    · by_cases h3 : q < 0
      · exact epair_b3 h1 h2 h3
      · by_cases h4 : 13194139533312 < q
        · exact epair_b4 h1 h2 h3 h4
        · exact absurd ⟨h1.1, h1.2, h2.1.1, h2.1.2, h2.2.1, h2.2.2, by omega, by omega⟩ h
    · exact epair_b2 h1 h2
  · exact epair_b1 h1
theorem wakes22_of (h : Ret Tryz.prog G0 6 #[] (.bool true)) (K : Value → Prop) : callK Tryz.prog G0 6 #[] K ↔ K (.bool true) := callK_iff G0W (by kernel_rfl) h
theorem epair_at {g m w q a b : Int} (h : EIn g m w q) (hq : 0 < q) (e1 : enLo g m w q = a) (e2 : enHi g m w q = b) (K : Value → Prop) : callK Tryz.prog G0 7 #[.int .i64 g, .int .i64 m, .int .i64 w, .int .i64 q] K ↔ K (.tuple #[.int .i64 a, .int .i64 b, .int .i64 0]) := by
  subst e1 e2
  exact callK_iff G0W (by kernel_rfl) (epair_ok h hq)
theorem eplus_ret (a n : Int) (hi : i64 n) : Ret Tryz.prog G0 38 #[wd a, .int .i64 n] (wd (a + n)) := by
  refine ret_of G0F Tryz.func38 rfl Tryz.call38 (by simp) (by simp) (by simp [Tryz.ntmps38]) ?_
  intro C hC hC0 hY
  repeat' (first | apply gwS | simp only [wN, wM, Nat.reduceAdd, Nat.reduceMul] | ((first | refine gwR [] ?_ | refine gwD [] ?_); intro Q hQ hP; simp [hC, hY, hi]; (first | refine hQ _ _ _ _ (by kernel_rfl) ?_ | refine hP _ _ (by kernel_rfl) fun _ => ?_); clear hQ hP Q) | apply gwB | apply gwT | apply gwK | apply gwE | apply gwG | apply gwL | simp only [blockG_exit] | (refine gwC ?_ ?_ <;> (intro hb; first | (cases hb; done) | skip)))
  refine ⟨.inr trivial, ?_⟩
  simp [Tryz.results38]
@[simp] theorem eplus (a n : Int) (hi : i64 n) (K : Value → Prop) : callK Tryz.prog G0 38 #[Value.agg #[.int .u64 (wi (a) 0), .int .u64 (wi (a) 1), .int .u64 (wi (a) 2), .int .u64 (wi (a) 3)], .int .i64 n] K ↔ K (wd (a + n)) := callK_iff G0W (by kernel_rfl) (eplus_ret a n hi)
def spV (lo hi : Int) : Value := .agg #[.int .u64 (wi lo 0), .int .u64 (wi lo 1), .int .u64 (wi lo 2), .int .u64 (wi lo 3), .int .u64 (wi hi 0), .int .u64 (wi hi 1), .int .u64 (wi hi 2), .int .u64 (wi hi 3)]
@[simp] theorem spV_flat (lo hi : Int) : flatV (spV lo hi) = true := by simp [spV]
def holdB (lo hi a : Int) : Bool := decide (cmpI (sz lo) (sz a) ≤ 0) && decide (cmpI (sz a) (sz hi) ≤ 0)
theorem eholds_ret (lo hi a : Int) : Ret Tryz.prog G0 17 #[spV lo hi, wd a] (.bool (holdB lo hi a)) := by
  refine ret_of G0F Tryz.func17 rfl Tryz.call17 rfl (by simp) (by simp [Tryz.ntmps17]) ?_
  intro C hC hC0 hY
  unfold spV holdB
  by_cases h1 : cmpI (sz lo) (sz a) ≤ 0
  · rw [decide_eq_true h1]
    repeat' (first | apply gwS | simp only [wN, wM, Nat.reduceAdd, Nat.reduceMul] | ((first | refine gwR [] ?_ | refine gwD [] ?_); intro Q hQ hP; simp [hC, hY, h1]; (first | refine hQ _ _ _ _ (by kernel_rfl) ?_ | refine hP _ _ (by kernel_rfl) fun _ => ?_); clear hQ hP Q) | apply gwB | apply gwT | apply gwK | apply gwE | apply gwG | apply gwL | simp only [blockG_exit] | (refine gwC ?_ ?_ <;> (intro hb; first | (cases hb; done) | skip)))
    refine ⟨.inr trivial, ?_⟩
    simp [Tryz.results17]
  · rw [decide_eq_false h1]
    repeat' (first | apply gwS | simp only [wN, wM, Nat.reduceAdd, Nat.reduceMul] | ((first | refine gwR [] ?_ | refine gwD [] ?_); intro Q hQ hP; simp [hC, hY, h1]; (first | refine hQ _ _ _ _ (by kernel_rfl) ?_ | refine hP _ _ (by kernel_rfl) fun _ => ?_); clear hQ hP Q) | apply gwB | apply gwT | apply gwK | apply gwE | apply gwG | apply gwL | simp only [blockG_exit] | (refine gwC ?_ ?_ <;> (intro hb; first | (cases hb; done) | skip)))
    refine ⟨.inr trivial, ?_⟩
    simp [Tryz.results17]
theorem ewidth_small (lo hi : Int) (hl : wr lo) (hh : wr hi) (h0 : lo ≤ hi) (h1 : i64 (hi - lo)) : Ret Tryz.prog G0 15 #[spV lo hi] (.tuple #[.int .i64 (hi - lo), .bool true]) := by
  refine ret_of G0F Tryz.func15 rfl Tryz.call15 (by simp) (by simp) (by simp [Tryz.ntmps15]) ?_
  intro C hC hC0 hY
  have w := i64_wr h1
  have s1 := wr_sz w
  have g1 := wr_ng hl
  have g2 := wr_ng hh
  have g3 := ng_f w (by omega)
  have n0 : 0 ≤ hi - lo := by omega
  have n1 : lo ≤ hi := h0
  have hov : (!decide (hi < 0) != decide (lo < 0) || !decide (hi < 0)) = true := by
    by_cases a : hi < 0
    · have b : lo < 0 := by omega
      simp [a, b]
    · simp [a]
  unfold spV
  repeat' (first | apply gwS | simp only [wN, wM, Nat.reduceAdd, Nat.reduceMul] | ((first | refine gwR [] ?_ | refine gwD [] ?_); intro Q hQ hP; simp [hC, hY, h1, s1, g1, g2, g3, n0, n1, hov]; (first | refine hQ _ _ _ _ (by kernel_rfl) ?_ | refine hP _ _ (by kernel_rfl) fun _ => ?_); clear hQ hP Q) | apply gwB | apply gwT | apply gwK | apply gwE | apply gwG | apply gwL | simp only [blockG_exit] | (refine gwC ?_ ?_ <;> (intro hb; first | (cases hb; done) | skip)))
  refine ⟨.inr trivial, ?_⟩
  simp [Tryz.results15]
end Go.Gy
namespace Go.Gy
set_option linter.unusedSimpArgs false
set_option linter.unusedVariables false
open Go Go.RowKit
section
variable {P : Program} {C : Ctx} {n : Nat} {d : List Deferred} {ro : Option Nat} {s : GS} {K : Exit → GS → Prop}
theorem GI.freeze {r : Nat → Nat} {a : Act} {W : World} {k t : Nat} {cs : Array Value} (hk : s.hp k = some ⟨cs, .ty t⟩) (h100 : 100 ≤ k) (h : GI P C n d r s a W) : GI P C n d r ⟨s.ts, upd s.hp k (some ⟨cs.map (renF r), .raw t (0, 0)⟩), s.B, s.yc⟩ a W := by
  have hD : dom (upd s.hp k (some ⟨cs.map (renF r), .raw t (0, 0)⟩)) = dom s.hp := by
    funext q
    unfold dom
    by_cases e : q = k
    · subst e
      rw [upd_same, hk]
      simp
    · rw [upd_other _ _ e]
  have hkB : ¬ s.B ≤ k := fun hb => by have := h.free k hb; rw [hk] at this; cases this
  refine ⟨⟨h.ri.size, ?_, fun q b hq => ?_, ?_, ?_, fun i hi => ?_, fun q hq => ?_, fun q hq hd => ?_⟩, fun x hx => ?_, h.low, h.flat, h.rounds⟩
  · show Rel r (dom (upd s.hp k _)) s.ts a
    rw [hD]
    exact h.ri.rel
  · show W.heap[r q]? = some (b.obj r) ∧ b.ids (dom (upd s.hp k _))
    rw [hD]
    by_cases e : q = k
    · subst e
      have hq' : some (Blk.mk (cs.map (renF r)) (.raw t (0, 0))) = some b := (upd_same _ _ _).symm.trans hq
      cases hq'
      exact ⟨(h.ri.sat q _ hk).1, trivial⟩
    · have hq' : s.hp q = some b := (upd_other _ _ e).symm.trans hq
      exact h.ri.sat q b hq'
  · show Inj r (dom (upd s.hp k _))
    rw [hD]
    exact h.ri.inj
  · obtain ⟨S, ms, h1, h2, h3, h4⟩ := h.ri.ext
    refine ⟨S, ms, h1, h2, fun i hi => ?_, h4⟩
    have hi' : dom (upd s.hp k (some ⟨cs.map (renF r), .raw t (0, 0)⟩)) i := hi
    rw [hD] at hi'
    exact h3 i hi'
  · show dom (upd s.hp k _) i ∧ _
    rw [hD]
    exact h.ri.keep i hi
  · show upd s.hp k _ q = _
    rw [upd_other _ _ (by omega)]
    exact h.ri.glob q hq
  · have hd' : dom (upd s.hp k (some ⟨cs.map (renF r), .raw t (0, 0)⟩)) q := hd
    rw [hD] at hd'
    exact h.ri.low q hq hd'
  · show upd s.hp k _ x = none
    have hx' : s.B ≤ x := hx
    rw [upd_other _ _ (by omega)]
    exact h.free x hx'
theorem GW_freeze {c : Code} (k : Nat) {t : Nat} {cs : Array Value} (hk : s.hp k = some ⟨cs, .ty t⟩) (h100 : 100 ≤ k) (h : ∀ cs' : Array Value, cs'.size = cs.size → (∀ (j : Nat) (v : Value), cs[j]? = some v → flatF v = true → cs'[j]? = some v) → GW P C n d ro c ⟨s.ts, upd s.hp k (some ⟨cs', .raw t (0, 0)⟩), s.B, s.yc⟩ K) : GW P C n d ro c s K := fun r a W hi =>
  h (cs.map (renF r)) (by simp) (fun j v hj hf => by simp [hj, flatF_ren hf]) r a W (hi.freeze hk h100)
end
end Go.Gy
namespace Go.Gy
set_option linter.unusedSimpArgs false
set_option linter.unusedVariables false
open Go Go.RowKit Go.Proofs
set_option maxRecDepth 8000 in
set_option maxHeartbeats 4000000 in
theorem epot_bad (L : List (Nat × Blk)) (ks : Nat) (bm bs : Blk) (hT : LTwo G0 L ks bm bs) (off n cap off2 n2 cap2 : Nat) (fm fs : Nat → Int) (hm : MB bm off n fm) (hSb : SB bs off2 n2 fs) (g bx tp nr md st : Int) (hs : i64 st)
    (hf : fitB n n2 (cfOk n fm g bx tp nr md) (rightB st fs n2) = false) :
    Fun Tryz.prog G0 11 #[cfV (.slice (some ⟨100, off, none⟩) n cap) g bx tp nr md, .agg #[.int .i64 st, .slice (some ⟨ks, off2, none⟩) n2 cap2]] (hpL G0 L) (keys L) (.ret (.tuple #[spV 0 0, .int .i64 2]) []) := by
  refine fun_ofL (B := 200) G0F Tryz.func11 rfl Tryz.call11 hT.ok ?_ (flatV_ids (by simp [spV])) (by simp) (by simp) (by simp [Tryz.ntmps11]) (by omega) ?_
  · simp [idsV, idsA, idsF, ids0, hT.ia, hT.ib, cfV]
  intro C hC hC0 hY
  have hA := hT.a
  have hS := hT.s
  have hne := hT.ne
  have hLow := hT.low
  have hks := hT.k1
  have hks2 := hT.k2
  have hfit := kFits_L L ks bm bs hT off n cap off2 n2 cap2 fm fs hm hSb g bx tp nr md st hs
  rw [hf] at hfit
  unfold cfV at hfit ⊢
  repeat' (first | apply gwS | simp only [wN, wM, Nat.reduceAdd, Nat.reduceMul] | ((first | refine gwR [34] ?_ | refine gwD [34] ?_); intro Q hQ hP; simp [hC, hY, hA, hS, hne, wi_zero]; (repeat ((first | (refine heapK_L hfit hT.ok (by (intro p hp; have hpb := hT.ok.big p hp; (try dsimp only); simp (disch := omega) only [addB, upd_other, hpL_cons, hpL_nil, if_neg, updL, List.cons_append, List.nil_append]; first | exact hT.mem p hp | exact cL p hp)) ?_)); try simp [hC, hY, hA, hS, hne, wi_zero])); (first | refine hQ _ _ _ _ (by kernel_rfl) ?_ | refine hP _ _ (by kernel_rfl) fun _ => ?_); clear hQ hP Q) | apply gwB | apply gwT | apply gwK | apply gwE | apply gwG | apply gwL | simp only [blockG_exit] | (refine gwC ?_ ?_ <;> (intro hb; first | (cases hb; done) | skip)))
  refine ⟨.inr rfl, by simp [Tryz.results11, wi_zero, spV], keep_of G0F (by (intro p hp; have hpb := hT.ok.big p hp; first | rfl | (simp (disch := omega) only [addB, upd_other, hpL_cons, hpL_nil, if_neg, updL, List.cons_append, List.nil_append] <;> done))) (by (intro k hk; first | exact hLow k hk | (simp (disch := omega) only [hLow, addB, List.mem_cons, List.not_mem_nil, or_false, upd_other, hpL_cons, hpL_nil, if_neg, updL, List.cons_append, List.nil_append] <;> done)))⟩
def ezB (cq : Array Value) : Blk := ⟨cq, .raw 24 (0, 0)⟩
theorem ezB_rn {cq : Array Value} {ρ : Nat → Nat} : (ezB cq).rn ρ = ezB cq := rfl
theorem ezB_ids {cq : Array Value} {D : Nat → Prop} : (ezB cq).ids D := trivial
theorem ez_ld {cq : Array Value} {g : Int} (h1 : cq[1]? = some (.int .i64 g)) : loadK Tryz.prog 3 ⟨cq, .raw 24 (0, 0)⟩ 1 = some (.int .i64 g) := by
  unfold loadK
  simp [h1, flatV, flatF, flat0]
def spB (lo hi : Int) : Blk := ⟨#[.int .u64 (wi lo 0), .int .u64 (wi lo 1), .int .u64 (wi lo 2), .int .u64 (wi lo 3), .int .u64 (wi hi 0), .int .u64 (wi hi 1), .int .u64 (wi hi 2), .int .u64 (wi hi 3)], .ty 32⟩
def epTs : List (Nat × Value) := [(2, .pointer (some ⟨200, 0, none⟩)), (4, .pointer (some ⟨216, 0, none⟩)), (5, .pointer (some ⟨224, 0, none⟩))]
def epM (cq : Array Value) (lo hi : Int) : List (Nat × Blk) := [(200, ezB cq), (216, spB lo hi), (224, ⟨#[.int .i64 0], .ty 35⟩)]
def epI (cq : Array Value) (F H : Nat → Nat → Int) (l : List (Nat × Nat)) (j : Nat) (h : Hp) : Prop := h = hpL G0 (epM cq (pS F (l.take j)) (pS H (l.take j)))
def epr (k : Nat) : Nat := if k = 200 then 280 else if k = 208 then 281 else k
theorem eIn {asd : List Nat} {f g : Hp} {k : Nat} (h : k ∈ asd) : addB asd f g k = f k := if_pos h
theorem eNi {asd : List Nat} {f g : Hp} {k : Nat} (h : k ∉ asd) : addB asd f g k = g k := if_neg h
theorem eOut {G : Hp} : ∀ {L : List (Nat × Blk)} {k : Nat}, k ∉ keys L → hpL G L k = G k
  | [], _, _ => rfl
  | (q, c) :: L, k, h => by
    simp only [keys, List.map_cons, List.mem_cons, not_or] at h
    rw [hpL_cons, if_neg h.1]
    exact eOut h.2
theorem eAsd {L : List (Nat × Blk)} (hL : LOk L 200) : (fun k => if k ∈ 280 :: 281 :: keys L then none else hpL G0 L k) = hpL G0 [] := by
  funext k
  simp only [hpL_nil]
  split
  · rename_i hm
    rcases List.mem_cons.1 hm with rfl | hm
    · exact (G0_big _ (by omega)).symm
    · rcases List.mem_cons.1 hm with rfl | hm
      · exact (G0_big _ (by omega)).symm
      · obtain ⟨p, hp, rfl⟩ := mem_keys.1 hm
        exact (G0_big _ (hL.big p hp).1).symm
  · rename_i hm
    exact eOut fun h => hm (List.mem_cons_of_mem _ (List.mem_cons_of_mem _ h))
theorem epr_id {k : Nat} (h : k < 200) : epr k = k := by unfold epr; rw [if_neg (by omega), if_neg (by omega)]
set_option maxRecDepth 8000 in
set_option maxHeartbeats 4000000 in
theorem epot_fit (L : List (Nat × Blk)) (ks : Nat) (bm bs : Blk) (hT : LTwo G0 L ks bm bs) (off n cap off2 cap2 : Nat) (fm fs : Nat → Int) (hm : MB bm off n fm) (hSb : SB bs off2 n fs) (hcap2 : n ≤ cap2) (g bx tp nr md st : Int) (hs : i64 st)
    (hok : cfOk n fm g bx tp nr md = true) (hrt : rightB st fs n = true) (hz : potZ fs n = 0) :
    Fun Tryz.prog G0 11 #[cfV (.slice (some ⟨100, off, none⟩) n cap) g bx tp nr md, .agg #[.int .i64 st, .slice (some ⟨ks, off2, none⟩) n cap2]] (hpL G0 L) (keys L) (.ret (.tuple #[spV (potLo g fm fs n) (potHi g fm fs n), .int .i64 0]) []) := by
  refine fun_ofL (B := 200) G0F Tryz.func11 rfl Tryz.call11 hT.ok ?_ (flatV_ids (by simp [spV])) (by simp) (by simp) (by simp [Tryz.ntmps11]) (by omega) ?_
  · simp [idsV, idsA, idsF, ids0, hT.ia, hT.ib, cfV]
  intro C hC hC0 hY
  have hA := hT.a
  have hS := hT.s
  have hne := hT.ne
  have hLow := hT.low
  have hks := hT.k1
  have hks2 := hT.k2
  have hfit := kFits_L L ks bm bs hT off n cap off2 n cap2 fm fs hm hSb g bx tp nr md st hs
  rw [fitB_iff.2 ⟨rfl, hok, hrt⟩] at hfit
  have hn4 := (right_n hrt).2.1
  have hpr := epairs_at 280 (by omega) L ks bm bs hT off n cap off2 n cap2 g bx tp nr md st
  unfold cfV at hfit hpr ⊢
  repeat' (first | apply gwS | simp only [wN, wM, Nat.reduceAdd, Nat.reduceMul] | ((first | refine gwR [34] ?_ | refine gwD [34] ?_); intro Q hQ hP; simp [hC, hY, hA, hS, hne, wi_zero]; (repeat ((first | (refine heapK_L hfit hT.ok (by (intro p hp; have hpb := hT.ok.big p hp; (try dsimp only); simp (disch := omega) only [addB, upd_other, hpL_cons, hpL_nil, if_neg, updL, List.cons_append, List.nil_append]; first | exact hT.mem p hp | exact cL p hp)) ?_)); try simp [hC, hY, hA, hS, hne, wi_zero])); (first | refine hQ _ _ _ _ (by kernel_rfl) ?_ | refine hP _ _ (by kernel_rfl) fun _ => ?_); clear hQ hP Q) | apply gwB | apply gwT | apply gwK | apply gwE | apply gwG | apply gwL | simp only [blockG_exit] | (refine gwC ?_ ?_ <;> (intro hb; first | (cases hb; done) | skip)))
  refine GW_list ?_
  simp only [Array.toList]
  refine GL_walk 2 [] rfl (by simp) (by kernel_rfl) ?_; intro q hq; simp [hC, hY, hA, hS, hne]; refine hq _ _ _ _ ?_; clear hq q
  simp only [wT, List.length_cons, List.length_nil, Nat.reduceAdd]
  refine GL_callL (f := .func 37) (cap := #[]) hC hpr rfl (by simp) rfl rfl (by simp [okT]) (by simp [gev]) (by simp) (by simp [okX, junk]) (by simp [gev]) (by intro q hq; obtain ⟨p, hp, rfl⟩ := mem_keys.1 hq; have hpb := hT.ok.big p hp; (try dsimp only); simp (disch := omega) only [upd_other]) (by (intro k hk; first | exact hLow k hk | (simp (disch := omega) only [hLow, addB, List.mem_cons, List.not_mem_nil, or_false, upd_other, hpL_cons, hpL_nil, if_neg, updL, List.cons_append, List.nil_append] <;> done))) (fun v ns hV k hk => by have := epairsR_key hV k hk; simp; omega) ?_
  rintro v ns ⟨rfl, rfl⟩
  refine GL_nil ?_
  repeat' (first | apply gwS | simp only [wN, wM, Nat.reduceAdd, Nat.reduceMul] | ((first | refine gwR [] ?_ | refine gwD [] ?_); intro Q hQ hP; simp [hC, hY, putT, updL, hA, hS, hne]; (first | refine hQ _ _ _ _ (by kernel_rfl) ?_ | refine hP _ _ (by kernel_rfl) fun _ => ?_); clear hQ hP Q) | apply gwB | apply gwT | apply gwK | apply gwE | apply gwG | apply gwL | simp only [blockG_exit] | (refine gwC ?_ ?_ <;> (intro hb; first | (cases hb; done) | skip)))
  simp only [putT, updL]
  refine GW_freeze 200 (t := 24) (cs := #[.slice (some ⟨100, off, none⟩) n cap, .int .i64 g, .int .i64 bx, .int .i64 tp, .int .i64 nr, .int .i64 md]) (by simp [cfB]) (by omega) ?_
  intro cq hq1 hq2
  have hq4 : cq[1]? = some (.int .i64 g) := hq2 1 _ rfl rfl
  have hq6 : cq.size = 6 := hq1
  have hidL : ∀ k ∈ keys L, epr k = k := fun k hk => by
    obtain ⟨p, hp, rfl⟩ := mem_keys.1 hk
    exact epr_id (hT.ok.big p hp).2
  have hout : ∀ k, 200 ≤ k → k ≠ 280 → k ≠ 281 → (k ∈ 280 :: 281 :: keys L) = False := fun k h1 h2 h3 => eq_false fun hm => by
    rcases List.mem_cons.1 hm with e | hm
    · exact h2 e
    · rcases List.mem_cons.1 hm with e | hm
      · exact h3 e
      · obtain ⟨p, hp, rfl⟩ := mem_keys.1 hm
        have := (hT.ok.big p hp).2
        omega
  have hasd : ∀ C0 : Ctx, (C0.hp0 = fun k => if k ∈ 280 :: 281 :: keys L then none else C.hp0 k) → C0.hp0 = hpL G0 [] := fun C0 h0 => by
    rw [h0, hC0]
    exact eAsd hT.ok
  refine GW_rangeK (f := 70) (rs := 280 :: 281 :: keys L) (xs := (epIx n).map fun p => epV fm fs p.1 p.2) (caps := #[.pointer (some ⟨281, 0, none⟩), .pointer (some ⟨280, 0, none⟩)]) (280 :: 281 :: keys L) hY (by simp) ?_ ?_ (by simp [Tryz.ntmps11]) (tsL epTs) (tsL epTs) (epI cq (fun i k => enLo g (fm i) (fm k) (esqF fs i k)) (fun i k => enHi g (fm i) (fm k) (esqF fs i k)) (epIx n)) (hpS := hpL G0 (epM cq 0 0)) 300 (epIx n).length (by simp) (fun k hk => hk) ?_ ?_ ?_ ?_ ?_ (fun _ => .inl rfl) ?_ ?_
  · rw [hC]
    refine iterk_mv (epairs_it L ks bm bs hT off n cap off2 cap2 fm fs hm hSb hcap2 hn4 g bx tp nr md st) G0F (enM_ok hT off n cap off2 n cap2 g bx tp nr md st) epr (fun k hk => epr_id (by omega)) (by simp [ren0, epr]) ?_ (by (intro k hk; first | exact hLow k hk | (simp (disch := omega) only [hLow, addB, List.mem_cons, List.not_mem_nil, or_false, upd_other, hpL_cons, hpL_nil, if_neg, updL, List.cons_append, List.nil_append] <;> done))) ?_ ?_
    · show epr 200 :: epr 208 :: (keys L).map epr = _
      rw [List.map_congr_left hidL]
      simp [epr]
    · intro p hp
      rcases List.mem_cons.1 hp with rfl | hp
      · simp [epr, cfB, Blk.rn, renF, ren0, upd]
      · rcases List.mem_cons.1 hp with rfl | hp
        · have h3 : epr ks = ks := epr_id hks2
          simp [stB', Blk.rn, renF, ren0, upd, h3]
          simp [epr, upd]
        · have hpb := hT.ok.big p hp
          rw [epr_id hpb.2, Blk.fx_rn (hT.fx p hp)]
          refine ⟨hpb.1, ?_⟩
          (try dsimp only)
          simp (disch := omega) only [addB, upd_other, hpL_cons, hpL_nil, if_neg, updL]
          exact hT.mem p hp
    · have key : ∀ k ∈ keys (enM L ks off n cap off2 n cap2 g bx tp nr md st), (k = 200 ∧ epr k = 280) ∨ (k = 208 ∧ epr k = 281) ∨ (k < 200 ∧ epr k = k) := fun k hk => by
        rcases List.mem_cons.1 hk with rfl | hk
        · exact .inl ⟨rfl, rfl⟩
        · rcases List.mem_cons.1 hk with rfl | hk
          · exact .inr (.inl ⟨rfl, rfl⟩)
          · obtain ⟨p, hp, rfl⟩ := mem_keys.1 hk
            have := (hT.ok.big p hp).2
            exact .inr (.inr ⟨this, epr_id this⟩)
      intro k hk l hl e
      have := key k hk
      have := key l hl
      omega
  · intro x hx
    simp only [List.mem_map] at hx
    obtain ⟨p, _, rfl⟩ := hx
    simp [epV]
  · intro k hk
    rcases List.mem_cons.1 hk with rfl | hk
    · simp [dom, upd]
    · rcases List.mem_cons.1 hk with rfl | hk
      · simp [dom, upd]
      · obtain ⟨p, hp, rfl⟩ := mem_keys.1 hk
        have hpb := hT.ok.big p hp
        refine ⟨hpb.1, ?_⟩
        unfold dom
        dsimp only
        simp (disch := omega) only [addB, upd_other, hpL_cons, hpL_nil, if_neg, updL]
        rw [hT.mem p hp]
        simp
  · intro k hk b hb1
    rcases List.mem_cons.1 hk with rfl | hk
    · simp [upd] at hb1; subst hb1; simp [cfB, ids_lit, idsF, ids0, hT.ia]
    · rcases List.mem_cons.1 hk with rfl | hk
      · simp [upd] at hb1; subst hb1; simp [stB', ids_lit, idsF, ids0, hT.ib]
      · obtain ⟨p, hp, rfl⟩ := mem_keys.1 hk
        have hpb := hT.ok.big p hp
        dsimp only at hb1
        simp (disch := omega) only [addB, upd_other, hpL_cons, hpL_nil, if_neg, updL] at hb1
        rw [hT.mem p hp] at hb1
        simp only [Option.some.injEq] at hb1
        subst hb1
        exact Blk.fx_ids (hT.fx p hp) _
  · intro C0 h1 h2
    refine weakL _ 300 (h1.trans hC) G0F (m0 := []) (hasd C0 h2) (by omega) ?_ ?_ ?_
    · simp [epTs, epM, idsV, idsA, idsF, ids0, dom]
    · simp [epM, ezB_ids, spB, ids_lit, idsF, ids0, dom, upd, wi_zero]
      rfl
    · simp
  · simp [epI, pS]
  · intro k hk
    have h3 : k = 280 ∨ k = 281 ∨ (100 ≤ k ∧ k < 200) := by
      rcases List.mem_cons.1 hk with rfl | hk
      · exact .inl rfl
      · rcases List.mem_cons.1 hk with rfl | hk
        · exact .inr (.inl rfl)
        · obtain ⟨p, hp, rfl⟩ := mem_keys.1 hk
          exact .inr (.inr (hT.ok.big p hp))
    rw [eOut (fun hm => ?_)]
    · exact G0_big k (by omega)
    · simp [epM, keys] at hm
      omega
  · intro j x hq0 hj hx hI C1 lb hC1 hh1 hY1
    unfold epI at hI
    subst hI
    rw [List.getElem?_map, List.getElem?_eq_getElem hj] at hx
    simp only [Option.map_some, Option.some.injEq] at hx
    subst hx
    have t1 := pS_take (fun i k => enLo g (fm i) (fm k) (esqF fs i k)) hj
    have t2 := pS_take (fun i k => enHi g (fm i) (fm k) (esqF fs i k)) hj
    have hmem := List.getElem_mem hj
    unfold epI
    rw [t1, t2]
    clear t1 t2
    generalize (epIx n)[j] = p at *
    obtain ⟨hl1, hl2⟩ := epIx_lt hmem
    have hsq := esq_in hrt (i := p.1) (k := p.2) hl2 (by omega)
    have hz1 : ¬ esqF fs p.1 p.2 = 0 := fun e => by
      have := (sum2_zero (Z := fun i k => if esqF fs i k = 0 then 1 else 0) (fun i k => by by_cases c : esqF fs i k = 0 <;> simp [c]) n).1 hz p.1 p.2 hl1 hl2
      simp [e] at this
    have hg := cfOk_g hok
    have hm1 := cfOk_mass hok (i := p.1) hl2
    have hm2 := cfOk_mass hok (i := p.2) (by omega)
    have hEI : EIn g (fm p.1) (fm p.2) (esqF fs p.1 p.2) := ⟨hg.1, hg.2, hm1.1, hm1.2, hm2.1, hm2.2, hsq.1, hsq.2⟩
    have P := epair_at hEI (by omega) rfl rfl
    have hlo := hEI.lo (by omega)
    have hhi := hEI.hi (by omega)
    have hld := ez_ld hq4
    generalize pS (fun i k => enLo g (fm i) (fm k) (esqF fs i k)) ((epIx n).take j) = A at *
    generalize pS (fun i k => enHi g (fm i) (fm k) (esqF fs i k)) ((epIx n).take j) = H at *
    generalize enLo g (fm p.1) (fm p.2) (esqF fs p.1 p.2) = lo at *
    generalize enHi g (fm p.1) (fm p.2) (esqF fs p.1 p.2) = hi at *
    have il : i64 lo := ⟨by omega, by omega⟩
    have ih : i64 hi := ⟨by omega, by omega⟩
    have hCC := hC
    have hC1' : C1.G = G0 := hC1.trans hC
    unfold epV
    clear hC hY
    have hC := hC1'
    have hY := hY1
    unfold epM spB ezB
    repeat' (first | apply gwS | simp only [wN, wM, Nat.reduceAdd, Nat.reduceMul] | ((first | refine gwR [] ?_ | refine gwD [] ?_); intro Q hQ hP; simp [hC, hY, roundTs, epTs]; (first | refine hQ _ _ _ _ (by kernel_rfl) ?_ | refine hP _ _ (by kernel_rfl) fun _ => ?_); clear hQ hP Q) | apply gwB | apply gwT | apply gwK | apply gwE | apply gwG | apply gwL | simp only [blockG_exit] | (refine gwC ?_ ?_ <;> (intro hb; first | (cases hb; done) | skip)))
    intro C2 hC2 hh2 hY2
    clear hC hY
    have hC : C2.G = G0 := hC2.trans hCC
    have hY := hY2
    repeat' (first | apply gwS | simp only [wN, wM, Nat.reduceAdd, Nat.reduceMul] | ((first | refine gwR [] ?_ | refine gwD [] ?_); intro Q hQ hP; simp [hC, hY, P, hld, il, ih]; (first | refine hQ _ _ _ _ (by kernel_rfl) ?_ | refine hP _ _ (by kernel_rfl) fun _ => ?_); clear hQ hP Q) | apply gwB | apply gwT | apply gwK | apply gwE | apply gwG | apply gwL | simp only [blockG_exit] | (refine gwC ?_ ?_ <;> (intro hb; first | (cases hb; done) | skip)))
    refine ⟨fun k => k, hpL G0 (epM cq (A + lo) (H + hi)), fun C0 h1 h2 => weakRL _ _ 300 (h1.trans hCC) G0F (m0 := []) (hasd C0 h2) (by omega) ?_ ?_ ?_ ?_ ?_, rfl⟩
    · simp [epTs, epM, dom, junk, ren, renA, renF, ren0, idsV, idsA, idsF, ids0]
    · simp [epM, ezB_rn, ezB_ids, spB, Blk.rn, renF, ren0, ids_lit, idsF, ids0, dom]
      rfl
    · simp [epM]
    · intro k hk; rfl
    · simp
  · refine .inl ⟨by simp, ?_⟩
    rintro hq hI
    have hI' : hq = hpL G0 (epM cq (potLo g fm fs n) (potHi g fm fs n)) := by
      rw [hI, List.take_length]
      unfold potLo potHi
      rw [sum2_ep _ hn4, sum2_ep _ hn4]
    subst hI'
    refine ⟨fun k hk => ?_, ?_⟩
    · have h3 : k = 280 ∨ k = 281 ∨ (100 ≤ k ∧ k < 200) := by
        rcases List.mem_cons.1 hk with rfl | hk
        · exact .inl rfl
        · rcases List.mem_cons.1 hk with rfl | hk
          · exact .inr (.inl rfl)
          · obtain ⟨p, hp, rfl⟩ := mem_keys.1 hk
            exact .inr (.inr (hT.ok.big p hp))
      refine ⟨?_, by omega⟩
      rw [eOut (fun hm => ?_)]
      · exact G0_big k (by omega)
      · simp [epM, keys] at hm
        omega
    have hm16 := hout 216 (by omega) (by omega) (by omega)
    have hm24 := hout 224 (by omega) (by omega) (by omega)
    unfold epTs epM spB
    repeat' (first | apply gwS | simp only [wN, wM, Nat.reduceAdd, Nat.reduceMul] | ((first | refine gwR [] ?_ | refine gwD [] ?_); intro Q hQ hP; simp [hC, hY, addB, hm16, hm24]; (first | refine hQ _ _ _ _ (by kernel_rfl) ?_ | refine hP _ _ (by kernel_rfl) fun _ => ?_); clear hQ hP Q) | apply gwB | apply gwT | apply gwK | apply gwE | apply gwG | apply gwL | simp only [blockG_exit] | (refine gwC ?_ ?_ <;> (intro hb; first | (cases hb; done) | skip)))
    refine ⟨.inr rfl, by simp [Tryz.results11, spV, addB, hm16, hm24], keep_of G0F (fun p hp => by
        have hpb := hT.ok.big p hp
        have hm9 : p.1 ∈ 280 :: 281 :: keys L := List.mem_cons_of_mem _ (List.mem_cons_of_mem _ (mem_keys.2 ⟨p, hp, rfl⟩))
        simp (disch := omega) only [eIn hm9, upd_other, hpL_cons, hpL_nil, if_neg, updL]) (fun k hk => by
        have hm9 : k ∉ 280 :: 281 :: keys L := fun hm9 => by
          rcases List.mem_cons.1 hm9 with rfl | hm9
          · omega
          · rcases List.mem_cons.1 hm9 with rfl | hm9
            · omega
            · obtain ⟨p, hp, rfl⟩ := mem_keys.1 hm9
              have := (hT.ok.big p hp).1
              omega
        simp (disch := omega) only [eNi hm9, upd_other, hpL_cons, hpL_nil, if_neg, updL, hLow])⟩
theorem heapK_less (t a : Int) {b nk : Nat} {hp : Hp} {K : Eff → Prop} (hb : 100 ≤ b) (h1 : hp b = some (wb t)) (hK : K ((Res.ret (wd (t - a)) []).eff [b])) :
    heapK Tryz.prog G0 41 #[Value.agg #[.int .u64 (wi (a) 0), .int .u64 (wi (a) 1), .int .u64 (wi (a) 2), .int .u64 (wi (a) 3)], .pointer (some ⟨b, 0, none⟩)] hp nk K :=
  heapK_mv (eless_fun t a) G0F (B := 200) ⟨by simp, by simp [keys], by simp [wb, ids_lit, idsF, ids0]⟩ (fun k => if k = 100 then b else k) (fun k hk => if_neg (by omega)) (by simp [ren, renA, renF, ren0]) (by simp) (by simp [wb, Blk.rn, renF, ren0, hb, h1]) (by simp [keys]) (by simp [keys]) hK
set_option maxRecDepth 8000 in
set_option maxHeartbeats 4000000 in
theorem eEnergy_fit (L : List (Nat × Blk)) (ks : Nat) (bm bs : Blk) (hT : LTwo G0 L ks bm bs) (off n cap off2 cap2 : Nat) (fm fs : Nat → Int) (hm : MB bm off n fm) (hSb : SB bs off2 n fs) (hcap : n ≤ cap) (hcap2 : n ≤ cap2) (g bx tp nr md st : Int) (hs : i64 st)
    (hok : cfOk n fm g bx tp nr md = true) (hrt : rightB st fs n = true) (hz : potZ fs n = 0) :
    Fun Tryz.prog G0 13 #[cfV (.slice (some ⟨100, off, none⟩) n cap) g bx tp nr md, .agg #[.int .i64 st, .slice (some ⟨ks, off2, none⟩) n cap2]] (hpL G0 L) (keys L) (.ret (.tuple #[spV (kinV fm fs n - potHi g fm fs n) (kinV fm fs n - potLo g fm fs n), .int .i64 0]) []) := by
  refine fun_ofL (B := 200) G0F Tryz.func13 rfl Tryz.call13 hT.ok ?_ (flatV_ids (by simp [spV])) (by simp) (by simp) (by simp [Tryz.ntmps13]) (by omega) ?_
  · simp [idsV, idsA, idsF, ids0, hT.ia, hT.ib, cfV]
  intro C hC hC0 hY
  have hA := hT.a
  have hS := hT.s
  have hne := hT.ne
  have hLow := hT.low
  have hks := hT.k1
  have hks2 := hT.k2
  have hpo := epot_fit L ks bm bs hT off n cap off2 cap2 fm fs hm hSb hcap2 g bx tp nr md st hs hok hrt hz
  have hki := ekin_L L ks bm bs hT off n cap off2 n cap2 fm fs hm hSb hcap hcap2 g bx tp nr md st hs
  unfold kinW kinE at hki
  rw [fitB_iff.2 ⟨rfl, hok, hrt⟩, if_pos rfl, if_pos rfl] at hki
  unfold cfV spV at hpo
  unfold cfV at hki ⊢
  generalize kinV fm fs n = T at *
  generalize potLo g fm fs n = lo at *
  generalize potHi g fm fs n = hi at *
  repeat' (first | apply gwS | simp only [wN, wM, Nat.reduceAdd, Nat.reduceMul] | ((first | refine gwR [11, 9, 41] ?_ | refine gwD [11, 9, 41] ?_); intro Q hQ hP; simp [hC, hY, hA, hS, hne, wi_zero]; (repeat ((first | (refine heapK_L hpo hT.ok (by (intro p hp; have hpb := hT.ok.big p hp; (try dsimp only); simp (disch := omega) only [addB, upd_other, hpL_cons, hpL_nil, if_neg, updL, List.cons_append, List.nil_append]; first | exact hT.mem p hp | exact cL p hp)) ?_) | (refine heapK_L hki hT.ok (by (intro p hp; have hpb := hT.ok.big p hp; (try dsimp only); simp (disch := omega) only [addB, upd_other, hpL_cons, hpL_nil, if_neg, updL, List.cons_append, List.nil_append]; first | exact hT.mem p hp | exact cL p hp)) ?_) | (refine heapK_less T hi (by simp) ?_ ?_; focus (simp [wb]; done)) | (refine heapK_less T lo (by simp) ?_ ?_; focus (simp [wb]; done))); try simp [hC, hY, hA, hS, hne, wi_zero])); (first | refine hQ _ _ _ _ (by kernel_rfl) ?_ | refine hP _ _ (by kernel_rfl) fun _ => ?_); clear hQ hP Q) | apply gwB | apply gwT | apply gwK | apply gwE | apply gwG | apply gwL | simp only [blockG_exit] | (refine gwC ?_ ?_ <;> (intro hb; first | (cases hb; done) | skip)))
  refine ⟨.inr rfl, by simp [Tryz.results13, spV], keep_of G0F (by (intro p hp; have hpb := hT.ok.big p hp; first | rfl | (simp (disch := omega) only [addB, upd_other, hpL_cons, hpL_nil, if_neg, updL, List.cons_append, List.nil_append] <;> done))) (by (intro k hk; first | exact hLow k hk | (simp (disch := omega) only [hLow, addB, List.mem_cons, List.not_mem_nil, or_false, upd_other, hpL_cons, hpL_nil, if_neg, updL, List.cons_append, List.nil_append] <;> done)))⟩
theorem epair_atz {g m w q : Int} (h : EIn g m w q) (hq : q = 0) (K : Value → Prop) : callK Tryz.prog G0 7 #[.int .i64 g, .int .i64 m, .int .i64 w, .int .i64 q] K ↔ K (.tuple #[.int .i64 0, .int .i64 0, .int .i64 30]) := callK_iff G0W (by kernel_rfl) (epair_z h hq)
theorem first_of {P : Nat × Nat → Prop} : ∀ {l : List (Nat × Nat)}, (∃ p ∈ l, P p) → ∃ N, ∃ h : N < l.length, P l[N] ∧ ∀ j, j < N → ∀ h : j < l.length, ¬ P l[j]
  | [], h => by obtain ⟨p, hp, _⟩ := h; cases hp
  | a :: l, h => by
    by_cases ha : P a
    · exact ⟨0, by simp, ha, fun j hj => by omega⟩
    · obtain ⟨p, hp, hP⟩ := h
      rcases List.mem_cons.1 hp with rfl | hp
      · exact absurd hP ha
      · obtain ⟨N, h1, h2, h3⟩ := first_of ⟨p, hp, hP⟩
        refine ⟨N + 1, by simpa using h1, by simpa using h2, fun j hj hl => ?_⟩
        cases j with
        | zero => exact ha
        | succ j => simpa using h3 j (by omega) (by simpa using hl)
theorem pS_ex {F : Nat → Nat → Int} : ∀ {l : List (Nat × Nat)}, ¬ pS F l = 0 → ∃ p ∈ l, ¬ F p.1 p.2 = 0
  | [], h => absurd rfl h
  | p :: l, h => by
    by_cases hp : F p.1 p.2 = 0
    · obtain ⟨q, hq, h2⟩ := pS_ex (F := F) (l := l) fun e => h (by simp only [pS]; omega)
      exact ⟨q, List.mem_cons_of_mem _ hq, h2⟩
    · exact ⟨p, by simp, hp⟩
theorem first_z {fs : Nat → Int} {n : Nat} (hn : 1 ≤ n ∧ n ≤ 4) (hz : ¬ potZ fs n = 0) : ∃ N, ∃ h : N < (epIx n).length, esqF fs (epIx n)[N].1 (epIx n)[N].2 = 0 ∧ ∀ j, j < N → ∀ h : j < (epIx n).length, ¬ esqF fs (epIx n)[j].1 (epIx n)[j].2 = 0 := by
  unfold potZ at hz
  rw [sum2_ep _ hn] at hz
  obtain ⟨p, hp, h⟩ := pS_ex hz
  refine first_of (P := fun p => esqF fs p.1 p.2 = 0) ⟨p, hp, ?_⟩
  by_cases c : esqF fs p.1 p.2 = 0
  · exact c
  · exact absurd (if_neg c) h
set_option maxRecDepth 8000 in
set_option maxHeartbeats 4000000 in
theorem epot_zero (L : List (Nat × Blk)) (ks : Nat) (bm bs : Blk) (hT : LTwo G0 L ks bm bs) (off n cap off2 cap2 : Nat) (fm fs : Nat → Int) (hm : MB bm off n fm) (hSb : SB bs off2 n fs) (hcap2 : n ≤ cap2) (g bx tp nr md st : Int) (hs : i64 st)
    (hok : cfOk n fm g bx tp nr md = true) (hrt : rightB st fs n = true) (hz : ¬ potZ fs n = 0) :
    Fun Tryz.prog G0 11 #[cfV (.slice (some ⟨100, off, none⟩) n cap) g bx tp nr md, .agg #[.int .i64 st, .slice (some ⟨ks, off2, none⟩) n cap2]] (hpL G0 L) (keys L) (.ret (.tuple #[spV 0 0, .int .i64 30]) []) := by
  refine fun_ofL (B := 200) G0F Tryz.func11 rfl Tryz.call11 hT.ok ?_ (flatV_ids (by simp [spV])) (by simp) (by simp) (by simp [Tryz.ntmps11]) (by omega) ?_
  · simp [idsV, idsA, idsF, ids0, hT.ia, hT.ib, cfV]
  intro C hC hC0 hY
  have hA := hT.a
  have hS := hT.s
  have hne := hT.ne
  have hLow := hT.low
  have hks := hT.k1
  have hks2 := hT.k2
  have hfit := kFits_L L ks bm bs hT off n cap off2 n cap2 fm fs hm hSb g bx tp nr md st hs
  rw [fitB_iff.2 ⟨rfl, hok, hrt⟩] at hfit
  have hn4 := (right_n hrt).2.1
  obtain ⟨N, hN, hzN, hbef⟩ := first_z hn4 hz
  have hpr := epairs_at 280 (by omega) L ks bm bs hT off n cap off2 n cap2 g bx tp nr md st
  unfold cfV at hfit hpr ⊢
  repeat' (first | apply gwS | simp only [wN, wM, Nat.reduceAdd, Nat.reduceMul] | ((first | refine gwR [34] ?_ | refine gwD [34] ?_); intro Q hQ hP; simp [hC, hY, hA, hS, hne, wi_zero]; (repeat ((first | (refine heapK_L hfit hT.ok (by (intro p hp; have hpb := hT.ok.big p hp; (try dsimp only); simp (disch := omega) only [addB, upd_other, hpL_cons, hpL_nil, if_neg, updL, List.cons_append, List.nil_append]; first | exact hT.mem p hp | exact cL p hp)) ?_)); try simp [hC, hY, hA, hS, hne, wi_zero])); (first | refine hQ _ _ _ _ (by kernel_rfl) ?_ | refine hP _ _ (by kernel_rfl) fun _ => ?_); clear hQ hP Q) | apply gwB | apply gwT | apply gwK | apply gwE | apply gwG | apply gwL | simp only [blockG_exit] | (refine gwC ?_ ?_ <;> (intro hb; first | (cases hb; done) | skip)))
  refine GW_list ?_
  simp only [Array.toList]
  refine GL_walk 2 [] rfl (by simp) (by kernel_rfl) ?_; intro q hq; simp [hC, hY, hA, hS, hne]; refine hq _ _ _ _ ?_; clear hq q
  simp only [wT, List.length_cons, List.length_nil, Nat.reduceAdd]
  refine GL_callL (f := .func 37) (cap := #[]) hC hpr rfl (by simp) rfl rfl (by simp [okT]) (by simp [gev]) (by simp) (by simp [okX, junk]) (by simp [gev]) (by intro q hq; obtain ⟨p, hp, rfl⟩ := mem_keys.1 hq; have hpb := hT.ok.big p hp; (try dsimp only); simp (disch := omega) only [upd_other]) (by (intro k hk; first | exact hLow k hk | (simp (disch := omega) only [hLow, addB, List.mem_cons, List.not_mem_nil, or_false, upd_other, hpL_cons, hpL_nil, if_neg, updL, List.cons_append, List.nil_append] <;> done))) (fun v ns hV k hk => by have := epairsR_key hV k hk; simp; omega) ?_
  rintro v ns ⟨rfl, rfl⟩
  refine GL_nil ?_
  repeat' (first | apply gwS | simp only [wN, wM, Nat.reduceAdd, Nat.reduceMul] | ((first | refine gwR [] ?_ | refine gwD [] ?_); intro Q hQ hP; simp [hC, hY, putT, updL, hA, hS, hne]; (first | refine hQ _ _ _ _ (by kernel_rfl) ?_ | refine hP _ _ (by kernel_rfl) fun _ => ?_); clear hQ hP Q) | apply gwB | apply gwT | apply gwK | apply gwE | apply gwG | apply gwL | simp only [blockG_exit] | (refine gwC ?_ ?_ <;> (intro hb; first | (cases hb; done) | skip)))
  simp only [putT, updL]
  refine GW_freeze 200 (t := 24) (cs := #[.slice (some ⟨100, off, none⟩) n cap, .int .i64 g, .int .i64 bx, .int .i64 tp, .int .i64 nr, .int .i64 md]) (by simp [cfB]) (by omega) ?_
  intro cq hq1 hq2
  have hq4 : cq[1]? = some (.int .i64 g) := hq2 1 _ rfl rfl
  have hq6 : cq.size = 6 := hq1
  have hidL : ∀ k ∈ keys L, epr k = k := fun k hk => by
    obtain ⟨p, hp, rfl⟩ := mem_keys.1 hk
    exact epr_id (hT.ok.big p hp).2
  have hout : ∀ k, 200 ≤ k → k ≠ 280 → k ≠ 281 → (k ∈ 280 :: 281 :: keys L) = False := fun k h1 h2 h3 => eq_false fun hm => by
    rcases List.mem_cons.1 hm with e | hm
    · exact h2 e
    · rcases List.mem_cons.1 hm with e | hm
      · exact h3 e
      · obtain ⟨p, hp, rfl⟩ := mem_keys.1 hm
        have := (hT.ok.big p hp).2
        omega
  have hasd : ∀ C0 : Ctx, (C0.hp0 = fun k => if k ∈ 280 :: 281 :: keys L then none else C.hp0 k) → C0.hp0 = hpL G0 [] := fun C0 h0 => by
    rw [h0, hC0]
    exact eAsd hT.ok
  refine GW_rangeK (f := 70) (rs := 280 :: 281 :: keys L) (xs := (epIx n).map fun p => epV fm fs p.1 p.2) (caps := #[.pointer (some ⟨281, 0, none⟩), .pointer (some ⟨280, 0, none⟩)]) (280 :: 281 :: keys L) hY (by simp) ?_ ?_ (by simp [Tryz.ntmps11]) (tsL epTs) (tsL epTs) (epI cq (fun i k => enLo g (fm i) (fm k) (esqF fs i k)) (fun i k => enHi g (fm i) (fm k) (esqF fs i k)) (epIx n)) (hpS := hpL G0 (epM cq 0 0)) 300 N (by simp; omega) (fun k hk => hk) ?_ ?_ ?_ ?_ ?_ (fun _ => .inl rfl) ?_ ?_
  · rw [hC]
    refine iterk_mv (epairs_it L ks bm bs hT off n cap off2 cap2 fm fs hm hSb hcap2 hn4 g bx tp nr md st) G0F (enM_ok hT off n cap off2 n cap2 g bx tp nr md st) epr (fun k hk => epr_id (by omega)) (by simp [ren0, epr]) ?_ (by (intro k hk; first | exact hLow k hk | (simp (disch := omega) only [hLow, addB, List.mem_cons, List.not_mem_nil, or_false, upd_other, hpL_cons, hpL_nil, if_neg, updL, List.cons_append, List.nil_append] <;> done))) ?_ ?_
    · show epr 200 :: epr 208 :: (keys L).map epr = _
      rw [List.map_congr_left hidL]
      simp [epr]
    · intro p hp
      rcases List.mem_cons.1 hp with rfl | hp
      · simp [epr, cfB, Blk.rn, renF, ren0, upd]
      · rcases List.mem_cons.1 hp with rfl | hp
        · have h3 : epr ks = ks := epr_id hks2
          simp [stB', Blk.rn, renF, ren0, upd, h3]
          simp [epr, upd]
        · have hpb := hT.ok.big p hp
          rw [epr_id hpb.2, Blk.fx_rn (hT.fx p hp)]
          refine ⟨hpb.1, ?_⟩
          (try dsimp only)
          simp (disch := omega) only [addB, upd_other, hpL_cons, hpL_nil, if_neg, updL]
          exact hT.mem p hp
    · have key : ∀ k ∈ keys (enM L ks off n cap off2 n cap2 g bx tp nr md st), (k = 200 ∧ epr k = 280) ∨ (k = 208 ∧ epr k = 281) ∨ (k < 200 ∧ epr k = k) := fun k hk => by
        rcases List.mem_cons.1 hk with rfl | hk
        · exact .inl ⟨rfl, rfl⟩
        · rcases List.mem_cons.1 hk with rfl | hk
          · exact .inr (.inl ⟨rfl, rfl⟩)
          · obtain ⟨p, hp, rfl⟩ := mem_keys.1 hk
            have := (hT.ok.big p hp).2
            exact .inr (.inr ⟨this, epr_id this⟩)
      intro k hk l hl e
      have := key k hk
      have := key l hl
      omega
  · intro x hx
    simp only [List.mem_map] at hx
    obtain ⟨p, _, rfl⟩ := hx
    simp [epV]
  · intro k hk
    rcases List.mem_cons.1 hk with rfl | hk
    · simp [dom, upd]
    · rcases List.mem_cons.1 hk with rfl | hk
      · simp [dom, upd]
      · obtain ⟨p, hp, rfl⟩ := mem_keys.1 hk
        have hpb := hT.ok.big p hp
        refine ⟨hpb.1, ?_⟩
        unfold dom
        dsimp only
        simp (disch := omega) only [addB, upd_other, hpL_cons, hpL_nil, if_neg, updL]
        rw [hT.mem p hp]
        simp
  · intro k hk b hb1
    rcases List.mem_cons.1 hk with rfl | hk
    · simp [upd] at hb1; subst hb1; simp [cfB, ids_lit, idsF, ids0, hT.ia]
    · rcases List.mem_cons.1 hk with rfl | hk
      · simp [upd] at hb1; subst hb1; simp [stB', ids_lit, idsF, ids0, hT.ib]
      · obtain ⟨p, hp, rfl⟩ := mem_keys.1 hk
        have hpb := hT.ok.big p hp
        dsimp only at hb1
        simp (disch := omega) only [addB, upd_other, hpL_cons, hpL_nil, if_neg, updL] at hb1
        rw [hT.mem p hp] at hb1
        simp only [Option.some.injEq] at hb1
        subst hb1
        exact Blk.fx_ids (hT.fx p hp) _
  · intro C0 h1 h2
    refine weakL _ 300 (h1.trans hC) G0F (m0 := []) (hasd C0 h2) (by omega) ?_ ?_ ?_
    · simp [epTs, epM, idsV, idsA, idsF, ids0, dom]
    · simp [epM, ezB_ids, spB, ids_lit, idsF, ids0, dom, upd, wi_zero]
      rfl
    · simp
  · simp [epI, pS]
  · intro k hk
    have h3 : k = 280 ∨ k = 281 ∨ (100 ≤ k ∧ k < 200) := by
      rcases List.mem_cons.1 hk with rfl | hk
      · exact .inl rfl
      · rcases List.mem_cons.1 hk with rfl | hk
        · exact .inr (.inl rfl)
        · obtain ⟨p, hp, rfl⟩ := mem_keys.1 hk
          exact .inr (.inr (hT.ok.big p hp))
    rw [eOut (fun hm => ?_)]
    · exact G0_big k (by omega)
    · simp [epM, keys] at hm
      omega
  · intro j x hq0 hj0 hx hI C1 lb hC1 hh1 hY1
    have hj : j < (epIx n).length := by omega
    have hz1 := hbef j hj0 hj
    unfold epI at hI
    subst hI
    rw [List.getElem?_map, List.getElem?_eq_getElem hj] at hx
    simp only [Option.map_some, Option.some.injEq] at hx
    subst hx
    have t1 := pS_take (fun i k => enLo g (fm i) (fm k) (esqF fs i k)) hj
    have t2 := pS_take (fun i k => enHi g (fm i) (fm k) (esqF fs i k)) hj
    have hmem := List.getElem_mem hj
    unfold epI
    rw [t1, t2]
    clear t1 t2
    generalize (epIx n)[j] = p at *
    obtain ⟨hl1, hl2⟩ := epIx_lt hmem
    have hsq := esq_in hrt (i := p.1) (k := p.2) hl2 (by omega)
    have hg := cfOk_g hok
    have hm1 := cfOk_mass hok (i := p.1) hl2
    have hm2 := cfOk_mass hok (i := p.2) (by omega)
    have hEI : EIn g (fm p.1) (fm p.2) (esqF fs p.1 p.2) := ⟨hg.1, hg.2, hm1.1, hm1.2, hm2.1, hm2.2, hsq.1, hsq.2⟩
    have P := epair_at hEI (by omega) rfl rfl
    have hlo := hEI.lo (by omega)
    have hhi := hEI.hi (by omega)
    have hld := ez_ld hq4
    generalize pS (fun i k => enLo g (fm i) (fm k) (esqF fs i k)) ((epIx n).take j) = A at *
    generalize pS (fun i k => enHi g (fm i) (fm k) (esqF fs i k)) ((epIx n).take j) = H at *
    generalize enLo g (fm p.1) (fm p.2) (esqF fs p.1 p.2) = lo at *
    generalize enHi g (fm p.1) (fm p.2) (esqF fs p.1 p.2) = hi at *
    have il : i64 lo := ⟨by omega, by omega⟩
    have ih : i64 hi := ⟨by omega, by omega⟩
    have hCC := hC
    have hC1' : C1.G = G0 := hC1.trans hC
    unfold epV
    clear hC hY
    have hC := hC1'
    have hY := hY1
    unfold epM spB ezB
    repeat' (first | apply gwS | simp only [wN, wM, Nat.reduceAdd, Nat.reduceMul] | ((first | refine gwR [] ?_ | refine gwD [] ?_); intro Q hQ hP; simp [hC, hY, roundTs, epTs]; (first | refine hQ _ _ _ _ (by kernel_rfl) ?_ | refine hP _ _ (by kernel_rfl) fun _ => ?_); clear hQ hP Q) | apply gwB | apply gwT | apply gwK | apply gwE | apply gwG | apply gwL | simp only [blockG_exit] | (refine gwC ?_ ?_ <;> (intro hb; first | (cases hb; done) | skip)))
    intro C2 hC2 hh2 hY2
    clear hC hY
    have hC : C2.G = G0 := hC2.trans hCC
    have hY := hY2
    repeat' (first | apply gwS | simp only [wN, wM, Nat.reduceAdd, Nat.reduceMul] | ((first | refine gwR [] ?_ | refine gwD [] ?_); intro Q hQ hP; simp [hC, hY, P, hld, il, ih]; (first | refine hQ _ _ _ _ (by kernel_rfl) ?_ | refine hP _ _ (by kernel_rfl) fun _ => ?_); clear hQ hP Q) | apply gwB | apply gwT | apply gwK | apply gwE | apply gwG | apply gwL | simp only [blockG_exit] | (refine gwC ?_ ?_ <;> (intro hb; first | (cases hb; done) | skip)))
    refine ⟨fun k => k, hpL G0 (epM cq (A + lo) (H + hi)), fun C0 h1 h2 => weakRL _ _ 300 (h1.trans hCC) G0F (m0 := []) (hasd C0 h2) (by omega) ?_ ?_ ?_ ?_ ?_, rfl⟩
    · simp [epTs, epM, dom, junk, ren, renA, renF, ren0, idsV, idsA, idsF, ids0]
    · simp [epM, ezB_rn, ezB_ids, spB, Blk.rn, renF, ren0, ids_lit, idsF, ids0, dom]
      rfl
    · simp [epM]
    · intro k hk; rfl
    · simp
  · refine .inr ⟨epV fm fs (epIx n)[N].1 (epIx n)[N].2, by rw [List.getElem?_map, List.getElem?_eq_getElem hN]; rfl, ?_⟩
    intro hq0 hI C1 lb hC1 hh1 hY1
    unfold epI at hI
    subst hI
    have hmem := List.getElem_mem hN
    generalize (epIx n)[N] = p at *
    obtain ⟨hl1, hl2⟩ := epIx_lt hmem
    have hsq := esq_in hrt (i := p.1) (k := p.2) hl2 (by omega)
    have hg := cfOk_g hok
    have hm1 := cfOk_mass hok (i := p.1) hl2
    have hm2 := cfOk_mass hok (i := p.2) (by omega)
    have hEI : EIn g (fm p.1) (fm p.2) (esqF fs p.1 p.2) := ⟨hg.1, hg.2, hm1.1, hm1.2, hm2.1, hm2.2, hsq.1, hsq.2⟩
    have P := epair_atz hEI hzN
    have hld := ez_ld hq4
    generalize pS (fun i k => enLo g (fm i) (fm k) (esqF fs i k)) ((epIx n).take N) = A at *
    generalize pS (fun i k => enHi g (fm i) (fm k) (esqF fs i k)) ((epIx n).take N) = H at *
    have hCC := hC
    have hC1' : C1.G = G0 := hC1.trans hC
    unfold epV
    clear hC hY
    have hC := hC1'
    have hY := hY1
    unfold epM spB ezB
    repeat' (first | apply gwS | simp only [wN, wM, Nat.reduceAdd, Nat.reduceMul] | ((first | refine gwR [] ?_ | refine gwD [] ?_); intro Q hQ hP; simp [hC, hY, roundTs, epTs]; (first | refine hQ _ _ _ _ (by kernel_rfl) ?_ | refine hP _ _ (by kernel_rfl) fun _ => ?_); clear hQ hP Q) | apply gwB | apply gwT | apply gwK | apply gwE | apply gwG | apply gwL | simp only [blockG_exit] | (refine gwC ?_ ?_ <;> (intro hb; first | (cases hb; done) | skip)))
    intro C2 hC2 hh2 hY2
    clear hC hY
    have hC : C2.G = G0 := hC2.trans hCC
    have hY := hY2
    repeat' (first | apply gwS | simp only [wN, wM, Nat.reduceAdd, Nat.reduceMul] | ((first | refine gwR [] ?_ | refine gwD [] ?_); intro Q hQ hP; simp [hC, hY, P, hld, wi_zero]; (first | refine hQ _ _ _ _ (by kernel_rfl) ?_ | refine hP _ _ (by kernel_rfl) fun _ => ?_); clear hQ hP Q) | apply gwB | apply gwT | apply gwK | apply gwE | apply gwG | apply gwL | simp only [blockG_exit] | (refine gwC ?_ ?_ <;> (intro hb; first | (cases hb; done) | skip)))
    have hm16 := hout 216 (by omega) (by omega) (by omega)
    have hm24 := hout 224 (by omega) (by omega) (by omega)
    refine ⟨rfl, fun t => ?_, fun k hk => ?_, ?_⟩
    · rcases tsL_mem (l := [(2, .pointer (some ⟨200, 0, none⟩)), (4, .pointer (some ⟨216, 0, none⟩)), (5, .pointer (some ⟨224, 0, none⟩))]) (t := t) with h | h
      · unfold epTs; rw [h]; simp [junk, idsV, idsA, idsF, ids0]
      · simp only [List.mem_cons, List.not_mem_nil, or_false, Prod.mk.injEq] at h
        unfold epTs
        rcases h with ⟨_, h⟩ | ⟨_, h⟩ | ⟨_, h⟩ <;> rw [h] <;> simp [idsV, idsA, idsF, ids0, dom]
    · have h3 : k = 280 ∨ k = 281 ∨ (100 ≤ k ∧ k < 200) := by
        rcases List.mem_cons.1 hk with rfl | hk
        · exact .inl rfl
        · rcases List.mem_cons.1 hk with rfl | hk
          · exact .inr (.inl rfl)
          · obtain ⟨p, hp, rfl⟩ := mem_keys.1 hk
            exact .inr (.inr (hT.ok.big p hp))
      refine ⟨?_, by omega⟩
      simp (disch := omega) only [upd_other, hpL_cons, hpL_nil, if_neg, updL]
      exact G0_big k (by omega)
    ·
      repeat' (first | apply gwS | simp only [wN, wM, Nat.reduceAdd, Nat.reduceMul] | ((first | refine gwR [] ?_ | refine gwD [] ?_); intro Q hQ hP; simp [hC, hY, addB, hm16, hm24]; (first | refine hQ _ _ _ _ (by kernel_rfl) ?_ | refine hP _ _ (by kernel_rfl) fun _ => ?_); clear hQ hP Q) | apply gwB | apply gwT | apply gwK | apply gwE | apply gwG | apply gwL | simp only [blockG_exit] | (refine gwC ?_ ?_ <;> (intro hb; first | (cases hb; done) | skip)))
      refine ⟨.inr rfl, by simp [Tryz.results11, spV, addB, hm16, hm24, epTs, wi_zero], keep_of G0F (fun p hp => by
        have hpb := hT.ok.big p hp
        have hm9 : p.1 ∈ 280 :: 281 :: keys L := List.mem_cons_of_mem _ (List.mem_cons_of_mem _ (mem_keys.2 ⟨p, hp, rfl⟩))
        simp (disch := omega) only [eIn hm9, upd_other, hpL_cons, hpL_nil, if_neg, updL]) (fun k hk => by
        have hm9 : k ∉ 280 :: 281 :: keys L := fun hm9 => by
          rcases List.mem_cons.1 hm9 with rfl | hm9
          · omega
          · rcases List.mem_cons.1 hm9 with rfl | hm9
            · omega
            · obtain ⟨p, hp, rfl⟩ := mem_keys.1 hm9
              have := (hT.ok.big p hp).1
              omega
        simp (disch := omega) only [eNi hm9, upd_other, hpL_cons, hpL_nil, if_neg, updL, hLow])⟩
set_option maxRecDepth 8000 in
set_option maxHeartbeats 4000000 in
theorem eEnergy_err (E : Int) (hE : ¬ E = 0) (L : List (Nat × Blk)) (ks : Nat) (bm bs : Blk) (hT : LTwo G0 L ks bm bs) (off n cap off2 n2 cap2 : Nat) (g bx tp nr md st : Int)
    (hpo : Fun Tryz.prog G0 11 #[cfV (.slice (some ⟨100, off, none⟩) n cap) g bx tp nr md, .agg #[.int .i64 st, .slice (some ⟨ks, off2, none⟩) n2 cap2]] (hpL G0 L) (keys L) (.ret (.tuple #[spV 0 0, .int .i64 E]) [])) :
    Fun Tryz.prog G0 13 #[cfV (.slice (some ⟨100, off, none⟩) n cap) g bx tp nr md, .agg #[.int .i64 st, .slice (some ⟨ks, off2, none⟩) n2 cap2]] (hpL G0 L) (keys L) (.ret (.tuple #[spV 0 0, .int .i64 E]) []) := by
  refine fun_ofL (B := 200) G0F Tryz.func13 rfl Tryz.call13 hT.ok ?_ (flatV_ids (by simp [spV])) (by simp) (by simp) (by simp [Tryz.ntmps13]) (by omega) ?_
  · simp [idsV, idsA, idsF, ids0, hT.ia, hT.ib, cfV]
  intro C hC hC0 hY
  have hA := hT.a
  have hS := hT.s
  have hne := hT.ne
  have hLow := hT.low
  have hks := hT.k1
  have hks2 := hT.k2
  have hEb : (E != 0) = true := by simpa using hE
  have hEq : (E == 0) = false := by simpa using hE
  unfold cfV spV at hpo
  unfold cfV
  repeat' (first | apply gwS | simp only [wN, wM, Nat.reduceAdd, Nat.reduceMul] | ((first | refine gwR [11] ?_ | refine gwD [11] ?_); intro Q hQ hP; simp [hC, hY, hA, hS, hne, wi_zero, hE, hEb, hEq]; (repeat ((first | (refine heapK_L hpo hT.ok (by (intro p hp; have hpb := hT.ok.big p hp; (try dsimp only); simp (disch := omega) only [addB, upd_other, hpL_cons, hpL_nil, if_neg, updL, List.cons_append, List.nil_append]; first | exact hT.mem p hp | exact cL p hp)) ?_)); try simp [hC, hY, hA, hS, hne, wi_zero, hE, hEb, hEq])); (first | refine hQ _ _ _ _ (by kernel_rfl) ?_ | refine hP _ _ (by kernel_rfl) fun _ => ?_); clear hQ hP Q) | apply gwB | apply gwT | apply gwK | apply gwE | apply gwG | apply gwL | simp only [blockG_exit] | (refine gwC ?_ ?_ <;> (intro hb; first | (cases hb; done) | skip)))
  refine ⟨.inr rfl, by simp [Tryz.results13, spV, wi_zero], keep_of G0F (by (intro p hp; have hpb := hT.ok.big p hp; first | rfl | (simp (disch := omega) only [addB, upd_other, hpL_cons, hpL_nil, if_neg, updL, List.cons_append, List.nil_append] <;> done))) (by (intro k hk; first | exact hLow k hk | (simp (disch := omega) only [hLow, addB, List.mem_cons, List.not_mem_nil, or_false, upd_other, hpL_cons, hpL_nil, if_neg, updL, List.cons_append, List.nil_append] <;> done)))⟩
end Go.Gy
namespace Go.Gy
set_option linter.unusedSimpArgs false
set_option linter.unusedVariables false
open Go Go.RowKit Go.Proofs
theorem w11_ret (n lo hi : Int) : Ret Tryz.prog G0 95 #[.int .i64 n, .int .i64 lo, .int .i64 hi] (.bool (wiB n lo hi)) := by
  refine ret_of G0F Tryz.func95 rfl Tryz.call95 rfl (by simp) (by simp [Tryz.ntmps95]) ?_
  intro C hC hC0 hY
  unfold wiB
  by_cases c0 : lo ≤ n
  · by_cases c1 : n ≤ hi
    · rw [decide_eq_true ⟨c0, c1⟩]
      (repeat' (first | apply gwS | simp only [wN, wM, Nat.reduceAdd, Nat.reduceMul] | ((first | refine gwR [] ?_ | refine gwD [] ?_); intro Q hQ hP; simp [hC, hY, c0, c1]; (first | refine hQ _ _ _ _ (by kernel_rfl) ?_ | refine hP _ _ (by kernel_rfl) fun _ => ?_); clear hQ hP Q) | apply gwB | apply gwT | apply gwK | apply gwE | apply gwG | apply gwL | simp only [blockG_exit] | (refine gwC ?_ ?_ <;> (intro hb; first | (cases hb; done) | skip))))
      refine ⟨.inr trivial, ?_⟩
      simp [Tryz.results95]
    · rw [decide_eq_false (by omega)]
      (repeat' (first | apply gwS | simp only [wN, wM, Nat.reduceAdd, Nat.reduceMul] | ((first | refine gwR [] ?_ | refine gwD [] ?_); intro Q hQ hP; simp [hC, hY, c0, c1]; (first | refine hQ _ _ _ _ (by kernel_rfl) ?_ | refine hP _ _ (by kernel_rfl) fun _ => ?_); clear hQ hP Q) | apply gwB | apply gwT | apply gwK | apply gwE | apply gwG | apply gwL | simp only [blockG_exit] | (refine gwC ?_ ?_ <;> (intro hb; first | (cases hb; done) | skip))))
      refine ⟨.inr trivial, ?_⟩
      simp [Tryz.results95]
  · rw [decide_eq_false (by omega)]
    (repeat' (first | apply gwS | simp only [wN, wM, Nat.reduceAdd, Nat.reduceMul] | ((first | refine gwR [] ?_ | refine gwD [] ?_); intro Q hQ hP; simp [hC, hY, c0]; (first | refine hQ _ _ _ _ (by kernel_rfl) ?_ | refine hP _ _ (by kernel_rfl) fun _ => ?_); clear hQ hP Q) | apply gwB | apply gwT | apply gwK | apply gwE | apply gwG | apply gwL | simp only [blockG_exit] | (refine gwC ?_ ?_ <;> (intro hb; first | (cases hb; done) | skip))))
    refine ⟨.inr trivial, ?_⟩
    simp [Tryz.results95]
@[simp] theorem w11 (n lo hi : Int) (K : Value → Prop) : callK Tryz.prog G0 95 #[.int .i64 n, .int .i64 lo, .int .i64 hi] K ↔ K (.bool (wiB n lo hi)) := callK_iff G0W (by kernel_rfl) (w11_ret n lo hi)
def whSt (b : Blk) (off n cap : Nat) (g bx tp nr md : Int) (i : Nat) : GS :=
  ⟨tsL [(1, .pointer (some ⟨200, 0, none⟩)), (3, .int .i64 i)], hpL G0 [(100, b), (200, cfB (.slice (some ⟨100, off, none⟩) n cap) g bx tp nr md)], 400, 0⟩
theorem allM_iff {f : Nat → Int} {n : Nat} : allM f n = true ↔ ∀ i, i < n → wiB (f i) 1 1024 = true := by simp [allM]
theorem why11_fun (b : Blk) (off n cap : Nat) (f : Nat → Int) (h : MB b off n f) (g bx tp nr md : Int) :
    Fun Tryz.prog G0 77 #[cfV (.slice (some ⟨100, off, none⟩) n cap) g bx tp nr md] (hpL G0 [(100, b)]) (keys [(100, b)]) (.ret (.string (whyS n f g bx tp nr md)) []) := by
  refine fun_ofL (B := 200) G0F Tryz.func77 rfl Tryz.call77 (oneL_ok h.fx) ?_ (by simp [idsV, idsA, idsF, ids0]) (by simp) (by simp) (by simp [Tryz.ntmps77]) (by omega) ?_
  · simp [idsV, idsA, idsF, ids0, keys, cfV]
  intro C hC hC0 hY
  have hid := fun D => Blk.fx_ids h.fx D
  unfold cfV
  cases h4 : wiB n 1 4 with
  | false =>
    have hw : whyS n f g bx tp nr md = ⟨#[98, 111, 100, 105, 101, 115]⟩ := by simp [whyS, h4]
    rw [hw]
    repeat' (first | apply gwS | simp only [wN, wM, Nat.reduceAdd, Nat.reduceMul] | ((first | refine gwR [] ?_ | refine gwD [] ?_); intro Q hQ hP; simp [hC, hY, h4]; (first | refine hQ _ _ _ _ (by kernel_rfl) ?_ | refine hP _ _ (by kernel_rfl) fun _ => ?_); clear hQ hP Q) | apply gwB | apply gwT | apply gwK | apply gwE | apply gwG | apply gwL | simp only [blockG_exit] | (refine gwC ?_ ?_ <;> (intro hb; first | (cases hb; done) | skip)))
    refine ⟨.inr rfl, by simp [Tryz.results77], keep_of G0F (by simp) (by (intro k hk; first | rfl | (simp (disch := omega) only [addB, List.mem_cons, List.not_mem_nil, or_false, upd_other, hpL_cons, hpL_nil, if_neg, updL] <;> done)))⟩
  | true =>
    obtain ⟨N, hN, hlt, hend⟩ := leadB (fun i => wiB (f i) 1 1024) n
    repeat' (first | apply gwS | simp only [wN, wM, Nat.reduceAdd, Nat.reduceMul] | ((first | refine gwR [] ?_ | refine gwD [] ?_); intro Q hQ hP; simp [hC, hY, h4]; (first | refine hQ _ _ _ _ (by kernel_rfl) ?_ | refine hP _ _ (by kernel_rfl) fun _ => ?_); clear hQ hP Q) | apply gwB | apply gwT | apply gwK | apply gwE | apply gwG | apply gwL | simp only [blockG_exit] | (refine gwC ?_ ?_ <;> (intro hb; first | (cases hb; done) | skip)))
    refine GW_for N (whSt b off n cap g bx tp nr md) ?_ ?_ ?_
    · refine weakL _ 400 hC G0F (m0 := [(100, b)]) hC0 (by omega) ?_ ?_ ?_
      · simp [idsV, idsA, idsF, ids0, dom]
      · simp [cfB, ids_lit, idsF, ids0, hid, dom]
      · simp
    · intro i hi
      have hi' : (i : Int) < n := by omega
      have hz : (0 : Int) ≤ i := by omega
      have hnn := h.nn
      have hs : Int.bmod ((i : Int) + 1) 18446744073709551616 = ((i + 1 : Nat) : Int) := by rw [bm (by omega) (by omega)]; rfl
      have hld := h.at (i := i) (by omega)
      have hw := hlt i hi
      unfold whSt cfB
      repeat' (first | apply gwS | simp only [wN, wM, Nat.reduceAdd, Nat.reduceMul] | ((first | refine gwR [] ?_ | refine gwD [] ?_); intro Q hQ hP; simp [hC, hY, hi', hz, hs, hld, hw]; (first | refine hQ _ _ _ _ (by kernel_rfl) ?_ | refine hP _ _ (by kernel_rfl) fun _ => ?_); clear hQ hP Q) | apply gwB | apply gwT | apply gwK | apply gwE | apply gwG | apply gwL | simp only [blockG_exit] | (refine gwC ?_ ?_ <;> (intro hb; first | (cases hb; done) | skip)))
      refine weakL _ 400 hC G0F (m0 := [(100, b)]) hC0 (by omega) ?_ ?_ ?_
      · simp [idsV, idsA, idsF, ids0, dom, hs]
      · simp [cfB, ids_lit, idsF, ids0, hid, dom]
      · simp
    · by_cases hNn : N = n
      · have hNs := hNn.symm
        subst hNs
        have hm : allM f n = true := allM_iff.2 hlt
        cases hg : wiB g 1 1048576 with
        | false =>
          have hw : whyS n f g bx tp nr md = ⟨#[99, 111, 110, 115, 116, 97, 110, 116]⟩ := by simp [whyS, h4, hm, hg]
          rw [hw]
          unfold whSt cfB
          repeat' (first | apply gwS | simp only [wN, wM, Nat.reduceAdd, Nat.reduceMul] | ((first | refine gwR [] ?_ | refine gwD [] ?_); intro Q hQ hP; simp [hC, hY, h4, hg]; (first | refine hQ _ _ _ _ (by kernel_rfl) ?_ | refine hP _ _ (by kernel_rfl) fun _ => ?_); clear hQ hP Q) | apply gwB | apply gwT | apply gwK | apply gwE | apply gwG | apply gwL | simp only [blockG_exit] | (refine gwC ?_ ?_ <;> (intro hb; first | (cases hb; done) | skip)))
          refine ⟨.inr rfl, by simp [Tryz.results77], keep_of G0F (by simp) (by (intro k hk; first | rfl | (simp (disch := omega) only [addB, List.mem_cons, List.not_mem_nil, or_false, upd_other, hpL_cons, hpL_nil, if_neg, updL] <;> done)))⟩
        | true =>
          cases hx : wiB bx 1 1048576 with
          | false =>
            have hw : whyS n f g bx tp nr md = ⟨#[98, 111, 120]⟩ := by simp [whyS, h4, hm, hg, hx]
            rw [hw]
            unfold whSt cfB
            repeat' (first | apply gwS | simp only [wN, wM, Nat.reduceAdd, Nat.reduceMul] | ((first | refine gwR [] ?_ | refine gwD [] ?_); intro Q hQ hP; simp [hC, hY, h4, hg, hx]; (first | refine hQ _ _ _ _ (by kernel_rfl) ?_ | refine hP _ _ (by kernel_rfl) fun _ => ?_); clear hQ hP Q) | apply gwB | apply gwT | apply gwK | apply gwE | apply gwG | apply gwL | simp only [blockG_exit] | (refine gwC ?_ ?_ <;> (intro hb; first | (cases hb; done) | skip)))
            refine ⟨.inr rfl, by simp [Tryz.results77], keep_of G0F (by simp) (by (intro k hk; first | rfl | (simp (disch := omega) only [addB, List.mem_cons, List.not_mem_nil, or_false, upd_other, hpL_cons, hpL_nil, if_neg, updL] <;> done)))⟩
          | true =>
            cases ht : wiB tp 1 65536 with
            | false =>
              have hw : whyS n f g bx tp nr md = ⟨#[116, 111, 112]⟩ := by simp [whyS, h4, hm, hg, hx, ht]
              rw [hw]
              unfold whSt cfB
              repeat' (first | apply gwS | simp only [wN, wM, Nat.reduceAdd, Nat.reduceMul] | ((first | refine gwR [] ?_ | refine gwD [] ?_); intro Q hQ hP; simp [hC, hY, h4, hg, hx, ht]; (first | refine hQ _ _ _ _ (by kernel_rfl) ?_ | refine hP _ _ (by kernel_rfl) fun _ => ?_); clear hQ hP Q) | apply gwB | apply gwT | apply gwK | apply gwE | apply gwG | apply gwL | simp only [blockG_exit] | (refine gwC ?_ ?_ <;> (intro hb; first | (cases hb; done) | skip)))
              refine ⟨.inr rfl, by simp [Tryz.results77], keep_of G0F (by simp) (by (intro k hk; first | rfl | (simp (disch := omega) only [addB, List.mem_cons, List.not_mem_nil, or_false, upd_other, hpL_cons, hpL_nil, if_neg, updL] <;> done)))⟩
            | true =>
              cases hn : wiB nr 1 (Int.bmod (2 * bx) 18446744073709551616) with
              | false =>
                have hw : whyS n f g bx tp nr md = ⟨#[110, 101, 97, 114]⟩ := by simp [whyS, h4, hm, hg, hx, ht, hn]
                rw [hw]
                unfold whSt cfB
                repeat' (first | apply gwS | simp only [wN, wM, Nat.reduceAdd, Nat.reduceMul] | ((first | refine gwR [] ?_ | refine gwD [] ?_); intro Q hQ hP; simp [hC, hY, h4, hg, hx, ht, hn]; (first | refine hQ _ _ _ _ (by kernel_rfl) ?_ | refine hP _ _ (by kernel_rfl) fun _ => ?_); clear hQ hP Q) | apply gwB | apply gwT | apply gwK | apply gwE | apply gwG | apply gwL | simp only [blockG_exit] | (refine gwC ?_ ?_ <;> (intro hb; first | (cases hb; done) | skip)))
                refine ⟨.inr rfl, by simp [Tryz.results77], keep_of G0F (by simp) (by (intro k hk; first | rfl | (simp (disch := omega) only [addB, List.mem_cons, List.not_mem_nil, or_false, upd_other, hpL_cons, hpL_nil, if_neg, updL] <;> done)))⟩
              | true =>
                cases hd : wiB md 0 4 with
                | false =>
                  have hw : whyS n f g bx tp nr md = ⟨#[109, 101, 116, 104, 111, 100]⟩ := by simp [whyS, h4, hm, hg, hx, ht, hn, hd]
                  rw [hw]
                  unfold whSt cfB
                  repeat' (first | apply gwS | simp only [wN, wM, Nat.reduceAdd, Nat.reduceMul] | ((first | refine gwR [] ?_ | refine gwD [] ?_); intro Q hQ hP; simp [hC, hY, h4, hg, hx, ht, hn, hd]; (first | refine hQ _ _ _ _ (by kernel_rfl) ?_ | refine hP _ _ (by kernel_rfl) fun _ => ?_); clear hQ hP Q) | apply gwB | apply gwT | apply gwK | apply gwE | apply gwG | apply gwL | simp only [blockG_exit] | (refine gwC ?_ ?_ <;> (intro hb; first | (cases hb; done) | skip)))
                  refine ⟨.inr rfl, by simp [Tryz.results77], keep_of G0F (by simp) (by (intro k hk; first | rfl | (simp (disch := omega) only [addB, List.mem_cons, List.not_mem_nil, or_false, upd_other, hpL_cons, hpL_nil, if_neg, updL] <;> done)))⟩
                | true =>
                  have hw : whyS n f g bx tp nr md = ⟨#[]⟩ := by simp [whyS, h4, hm, hg, hx, ht, hn, hd]
                  rw [hw]
                  unfold whSt cfB
                  repeat' (first | apply gwS | simp only [wN, wM, Nat.reduceAdd, Nat.reduceMul] | ((first | refine gwR [] ?_ | refine gwD [] ?_); intro Q hQ hP; simp [hC, hY, h4, hg, hx, ht, hn, hd]; (first | refine hQ _ _ _ _ (by kernel_rfl) ?_ | refine hP _ _ (by kernel_rfl) fun _ => ?_); clear hQ hP Q) | apply gwB | apply gwT | apply gwK | apply gwE | apply gwG | apply gwL | simp only [blockG_exit] | (refine gwC ?_ ?_ <;> (intro hb; first | (cases hb; done) | skip)))
                  refine ⟨.inr rfl, by simp [Tryz.results77], keep_of G0F (by simp) (by (intro k hk; first | rfl | (simp (disch := omega) only [addB, List.mem_cons, List.not_mem_nil, or_false, upd_other, hpL_cons, hpL_nil, if_neg, updL] <;> done)))⟩
      · have hNn' : N < n := by omega
        have hend := hend.resolve_left hNn
        have hm : allM f n = false := by
          cases hm : allM f n with
          | false => rfl
          | true => have := allM_iff.1 hm N hNn'; rw [hend] at this; cases this
        have hw : whyS n f g bx tp nr md = ⟨#[109, 97, 115, 115]⟩ := by simp [whyS, h4, hm]
        rw [hw]
        have hi' : (N : Int) < n := by omega
        have hz : (0 : Int) ≤ N := by omega
        have hld := h.at (i := N) (by omega)
        unfold whSt cfB
        repeat' (first | apply gwS | simp only [wN, wM, Nat.reduceAdd, Nat.reduceMul] | ((first | refine gwR [] ?_ | refine gwD [] ?_); intro Q hQ hP; simp [hC, hY, hi', hz, hld, hend]; (first | refine hQ _ _ _ _ (by kernel_rfl) ?_ | refine hP _ _ (by kernel_rfl) fun _ => ?_); clear hQ hP Q) | apply gwB | apply gwT | apply gwK | apply gwE | apply gwG | apply gwL | simp only [blockG_exit] | (refine gwC ?_ ?_ <;> (intro hb; first | (cases hb; done) | skip)))
        refine ⟨.inr rfl, by simp [Tryz.results77], keep_of G0F (by simp) (by (intro k hk; first | rfl | (simp (disch := omega) only [addB, List.mem_cons, List.not_mem_nil, or_false, upd_other, hpL_cons, hpL_nil, if_neg, updL] <;> done)))⟩
theorem chk11_fun (b : Blk) (off n cap : Nat) (f : Nat → Int) (h : MB b off n f) (g bx tp nr md : Int) :
    Fun Tryz.prog G0 46 #[cfV (.slice (some ⟨100, off, none⟩) n cap) g bx tp nr md] (hpL G0 [(100, b)]) (keys [(100, b)]) (.ret (.int .i64 (if cfOk n f g bx tp nr md = true then 0 else 110)) []) := by
  refine fun_ofL (B := 200) G0F Tryz.func46 rfl Tryz.call46 (oneL_ok h.fx) ?_ (by simp) (by simp) (by simp) (by simp [Tryz.ntmps46]) (by omega) ?_
  · simp [idsV, idsA, idsF, ids0, keys, cfV]
  intro C hC hC0 hY
  have hr := fun ρ => Blk.fx_rn h.fx ρ
  have hne := whyS_ne2 n f g bx tp nr md
  unfold cfV
  cases hc : cfOk n f g bx tp nr md with
  | true =>
    rw [hc] at hne
    repeat' (first | apply gwS | simp only [wN, wM, Nat.reduceAdd, Nat.reduceMul] | ((first | refine gwR [77] ?_ | refine gwD [77] ?_); intro Q hQ hP; simp [hC, hY, hne]; (repeat ((first | (refine heapK_mv (why11_fun b off n cap f h g bx tp nr md) G0F (B := 200) (oneL_ok h.fx) (fun k => k) (fun k hk => rfl) (by simp [ren, renA, renF, ren0, cfV]) (by simp) (by simp [hr]) (by simp [keys]) (by simp [keys]; rfl) ?_)); try simp [hC, hY, hne])); (first | refine hQ _ _ _ _ (by kernel_rfl) ?_ | refine hP _ _ (by kernel_rfl) fun _ => ?_); clear hQ hP Q) | apply gwB | apply gwT | apply gwK | apply gwE | apply gwG | apply gwL | simp only [blockG_exit] | (refine gwC ?_ ?_ <;> (intro hb; first | (cases hb; done) | skip)))
    refine ⟨.inr rfl, by simp [Tryz.results46], keep_of G0F (by simp) (by (intro k hk; first | rfl | (simp (disch := omega) only [addB, List.mem_cons, List.not_mem_nil, or_false, upd_other, hpL_cons, hpL_nil, if_neg, updL] <;> done)))⟩
  | false =>
    rw [hc] at hne
    repeat' (first | apply gwS | simp only [wN, wM, Nat.reduceAdd, Nat.reduceMul] | ((first | refine gwR [77] ?_ | refine gwD [77] ?_); intro Q hQ hP; simp [hC, hY, hne]; (repeat ((first | (refine heapK_mv (why11_fun b off n cap f h g bx tp nr md) G0F (B := 200) (oneL_ok h.fx) (fun k => k) (fun k hk => rfl) (by simp [ren, renA, renF, ren0, cfV]) (by simp) (by simp [hr]) (by simp [keys]) (by simp [keys]; rfl) ?_)); try simp [hC, hY, hne])); (first | refine hQ _ _ _ _ (by kernel_rfl) ?_ | refine hP _ _ (by kernel_rfl) fun _ => ?_); clear hQ hP Q) | apply gwB | apply gwT | apply gwK | apply gwE | apply gwG | apply gwL | simp only [blockG_exit] | (refine gwC ?_ ?_ <;> (intro hb; first | (cases hb; done) | skip)))
    refine ⟨.inr rfl, by simp [Tryz.results46], keep_of G0F (by simp) (by (intro k hk; first | rfl | (simp (disch := omega) only [addB, List.mem_cons, List.not_mem_nil, or_false, upd_other, hpL_cons, hpL_nil, if_neg, updL] <;> done)))⟩
theorem why11_nil (g bx tp nr md : Int) : Ret Tryz.prog G0 77 #[.agg #[.slice none 0 0, .int .i64 g, .int .i64 bx, .int .i64 tp, .int .i64 nr, .int .i64 md]] (.string ⟨#[98, 111, 100, 105, 101, 115]⟩) := by
  refine ret_of G0F Tryz.func77 rfl Tryz.call77 (by simp) (by simp) (by simp [Tryz.ntmps77]) ?_
  intro C hC hC0 hY
  have h4 : wiB 0 1 4 = false := by decide
  repeat' (first | apply gwS | simp only [wN, wM, Nat.reduceAdd, Nat.reduceMul] | ((first | refine gwR [] ?_ | refine gwD [] ?_); intro Q hQ hP; simp [hC, hY, h4]; (first | refine hQ _ _ _ _ (by kernel_rfl) ?_ | refine hP _ _ (by kernel_rfl) fun _ => ?_); clear hQ hP Q) | apply gwB | apply gwT | apply gwK | apply gwE | apply gwG | apply gwL | simp only [blockG_exit] | (refine gwC ?_ ?_ <;> (intro hb; first | (cases hb; done) | skip)))
  refine ⟨.inr trivial, ?_⟩
  simp [Tryz.results77]
@[simp] theorem why11N (g bx tp nr md : Int) (K : Value → Prop) : callK Tryz.prog G0 77 #[.agg #[.slice none 0 0, .int .i64 g, .int .i64 bx, .int .i64 tp, .int .i64 nr, .int .i64 md]] K ↔ K (.string ⟨#[98, 111, 100, 105, 101, 115]⟩) := callK_iff G0W (by kernel_rfl) (why11_nil g bx tp nr md)

theorem chk11_nil (g bx tp nr md : Int) : Ret Tryz.prog G0 46 #[cfV (.slice none 0 0) g bx tp nr md] (.int .i64 110) := by
  unfold cfV
  refine ret_of G0F Tryz.func46 rfl Tryz.call46 (by simp) (by simp) (by simp [Tryz.ntmps46]) ?_
  intro C hC hC0 hY
  have hne : sneB ⟨#[98, 111, 100, 105, 101, 115]⟩ ⟨#[]⟩ = true := by decide +kernel
  repeat' (first | apply gwS | simp only [wN, wM, Nat.reduceAdd, Nat.reduceMul] | ((first | refine gwR [] ?_ | refine gwD [] ?_); intro Q hQ hP; simp [hC, hY, hne]; (first | refine hQ _ _ _ _ (by kernel_rfl) ?_ | refine hP _ _ (by kernel_rfl) fun _ => ?_); clear hQ hP Q) | apply gwB | apply gwT | apply gwK | apply gwE | apply gwG | apply gwL | simp only [blockG_exit] | (refine gwC ?_ ?_ <;> (intro hb; first | (cases hb; done) | skip)))
  refine ⟨.inr trivial, ?_⟩
  simp [Tryz.results46]
@[simp] theorem chk11N (g bx tp nr md : Int) (K : Value → Prop) : callK Tryz.prog G0 46 #[.agg #[.slice none 0 0, .int .i64 g, .int .i64 bx, .int .i64 tp, .int .i64 nr, .int .i64 md]] K ↔ K (.int .i64 110) := callK_iff G0W (by kernel_rfl) (chk11_nil g bx tp nr md)
def d2F (f : Nat → Int) (i k : Nat) : Int := (f (6 * i) - f (6 * k)) * (f (6 * i) - f (6 * k)) + (f (6 * i + 1) - f (6 * k + 1)) * (f (6 * i + 1) - f (6 * k + 1)) + (f (6 * i + 2) - f (6 * k + 2)) * (f (6 * i + 2) - f (6 * k + 2))
theorem f2V_plain {a0 a1 a2 b0 b1 b2 : Int} (h : inW 1048576 a0 ∧ inW 1048576 a1 ∧ inW 1048576 a2) (k : inW 1048576 b0 ∧ inW 1048576 b1 ∧ inW 1048576 b2) : f2V a0 a1 a2 b0 b1 b2 = (a0 - b0) * (a0 - b0) + (a1 - b1) * (a1 - b1) + (a2 - b2) * (a2 - b2) := by
  have e : f2E a0 a1 a2 b0 b1 b2 = 0 := by
    unfold f2E eaE subI fnI
    unfold inW at h k
    rw [if_pos (by omega)]
  unfold f2V
  rw [if_pos e]
theorem esq_d2 {st : Int} {fs : Nat → Int} {n : Nat} (hr : rightB st fs n = true) {i k : Nat} (hi : i < n) (hk : k < n) : esqF fs i k = d2F fs i k := f2V_plain (right_b hr hi).1 (right_b hr hk).1
theorem pot_d2 {st g : Int} {fm fs : Nat → Int} {n : Nat} (hr : rightB st fs n = true) : potLo g fm fs n = sum2 (fun i k => enLo g (fm i) (fm k) (d2F fs i k)) n ∧ potHi g fm fs n = sum2 (fun i k => enHi g (fm i) (fm k) (d2F fs i k)) n ∧ potZ fs n = sum2 (fun i k => if d2F fs i k = 0 then 1 else 0) n := by
  refine ⟨sum2_congr fun i k h1 h2 => ?_, sum2_congr fun i k h1 h2 => ?_, sum2_congr fun i k h1 h2 => ?_⟩ <;> rw [esq_d2 hr h2 (by omega)]
theorem fine9_1 {a0 a1 a2 : Int} (h : inV 536870912 a0 a1 a2 = true) : Fun Tryz.prog G0 97 #[.slice (some ⟨100, 0, none⟩) 1 1] (hpL G0 [(100, ⟨#[.int .i64 a0, .int .i64 a1, .int .i64 a2], .ty 51⟩)]) (keys [(100, (⟨#[.int .i64 a0, .int .i64 a1, .int .i64 a2], .ty 51⟩ : Blk))]) (.ret (.bool true) []) := by
  refine fun_ofL (B := 200) G0F Tryz.func97 rfl Tryz.call97 ⟨by simp, by simp [keys], by simp [ids_lit, idsF, ids0]⟩ ?_ (by simp) (by simp) (by simp) (by simp [Tryz.ntmps97]) (by omega) ?_
  · simp [idsV, idsA, idsF, ids0, keys]
  intro C hC hC0 hY
  have im : i64 536870912 := by unfold i64; omega
  repeat' (first | apply gwS | refine GWL_start ?_ | refine GWL_step ?_ | simp only [wN, wM, Nat.reduceAdd, Nat.reduceMul] | ((first | refine gwR [] ?_ | refine gwD [] ?_); intro Q hQ hP; simp [hC, hY, h, im]; (first | refine hQ _ _ _ _ (by kernel_rfl) ?_ | refine hP _ _ (by kernel_rfl) fun _ => ?_); clear hQ hP Q) | apply gwB | apply gwT | apply gwK | apply gwE | apply gwG | apply gwL | simp only [blockG_exit] | (refine gwC ?_ ?_ <;> (intro hb; first | (cases hb; done) | skip)))
  refine ⟨.inr rfl, by simp [Tryz.results97], keep_of G0F (by simp) (by (intro k hk; first | rfl | (simp (disch := omega) only [addB, List.mem_cons, List.not_mem_nil, or_false, upd_other, hpL_cons, hpL_nil, if_neg, updL] <;> done)))⟩
theorem fine9_2 {a0 a1 a2 b0 b1 b2 : Int} (h : inV 536870912 a0 a1 a2 = true) (k : inV 536870912 b0 b1 b2 = true) : Fun Tryz.prog G0 97 #[.slice (some ⟨100, 0, none⟩) 2 2] (hpL G0 [(100, ⟨#[.int .i64 a0, .int .i64 a1, .int .i64 a2, .int .i64 b0, .int .i64 b1, .int .i64 b2], .ty 51⟩)]) (keys [(100, (⟨#[.int .i64 a0, .int .i64 a1, .int .i64 a2, .int .i64 b0, .int .i64 b1, .int .i64 b2], .ty 51⟩ : Blk))]) (.ret (.bool true) []) := by
  refine fun_ofL (B := 200) G0F Tryz.func97 rfl Tryz.call97 ⟨by simp, by simp [keys], by simp [ids_lit, idsF, ids0]⟩ ?_ (by simp) (by simp) (by simp) (by simp [Tryz.ntmps97]) (by omega) ?_
  · simp [idsV, idsA, idsF, ids0, keys]
  intro C hC hC0 hY
  have im : i64 536870912 := by unfold i64; omega
  repeat' (first | apply gwS | refine GWL_start ?_ | refine GWL_step ?_ | simp only [wN, wM, Nat.reduceAdd, Nat.reduceMul] | ((first | refine gwR [] ?_ | refine gwD [] ?_); intro Q hQ hP; simp [hC, hY, h, k, im]; (first | refine hQ _ _ _ _ (by kernel_rfl) ?_ | refine hP _ _ (by kernel_rfl) fun _ => ?_); clear hQ hP Q) | apply gwB | apply gwT | apply gwK | apply gwE | apply gwG | apply gwL | simp only [blockG_exit] | (refine gwC ?_ ?_ <;> (intro hb; first | (cases hb; done) | skip)))
  refine ⟨.inr rfl, by simp [Tryz.results97], keep_of G0F (by simp) (by (intro k hk; first | rfl | (simp (disch := omega) only [addB, List.mem_cons, List.not_mem_nil, or_false, upd_other, hpL_cons, hpL_nil, if_neg, updL] <;> done)))⟩
theorem told9_t {a0 a1 a2 : Int} (h : inV 536870912 a0 a1 a2 = true) : Ret Tryz.prog G0 96 #[.agg #[.int .i64 a0, .int .i64 a1, .int .i64 a2], .bool true] (.tuple #[.agg #[.int .i64 a0, .int .i64 a1, .int .i64 a2], .int .i64 0]) := by
  refine ret_of G0F Tryz.func96 rfl Tryz.call96 (by simp) (by simp) (by simp [Tryz.ntmps96]) ?_
  intro C hC hC0 hY
  repeat' (first | apply gwS | simp only [wN, wM, Nat.reduceAdd, Nat.reduceMul] | ((first | refine gwR [97] ?_ | refine gwD [97] ?_); intro Q hQ hP; simp [hC, hY]; (repeat ((first | (refine heapK_slB (fine9_1 h) (by simp) (by simp) (by simp) ?_ ?_; focus (simp; done))); try simp [hC, hY])); (first | refine hQ _ _ _ _ (by kernel_rfl) ?_ | refine hP _ _ (by kernel_rfl) fun _ => ?_); clear hQ hP Q) | apply gwB | apply gwT | apply gwK | apply gwE | apply gwG | apply gwL | simp only [blockG_exit] | (refine gwC ?_ ?_ <;> (intro hb; first | (cases hb; done) | skip)))
  refine ⟨.inr trivial, ?_⟩
  simp [Tryz.results96]
theorem told9K {a0 a1 a2 : Int} (h : inV 536870912 a0 a1 a2 = true) (K : Value → Prop) : callK Tryz.prog G0 96 #[.agg #[.int .i64 a0, .int .i64 a1, .int .i64 a2], .bool true] K ↔ K (.tuple #[.agg #[.int .i64 a0, .int .i64 a1, .int .i64 a2], .int .i64 0]) := callK_iff G0W (by kernel_rfl) (told9_t h)
theorem inV_of {m m' x y z : Int} (h : inW m x ∧ inW m y ∧ inW m z) (hm : m ≤ m') : inV m' x y z = true := by
  refine inV_iff.2 ?_
  unfold inW at *
  omega
theorem sub_in {m a b : Int} (h : inW m a) (k : inW m b) : inW (2 * m) (a - b) := by
  unfold inW at *
  omega
theorem sub9_ret {a0 a1 a2 b0 b1 b2 : Int} (h : inW 1048576 a0 ∧ inW 1048576 a1 ∧ inW 1048576 a2) (k : inW 1048576 b0 ∧ inW 1048576 b1 ∧ inW 1048576 b2) : Ret Tryz.prog G0 79 #[.agg #[.int .i64 a0, .int .i64 a1, .int .i64 a2], .agg #[.int .i64 b0, .int .i64 b1, .int .i64 b2]] (.tuple #[.agg #[.int .i64 (a0 - b0), .int .i64 (a1 - b1), .int .i64 (a2 - b2)], .int .i64 0]) := by
  refine ret_of G0F Tryz.func79 rfl Tryz.call79 (by simp) (by simp) (by simp [Tryz.ntmps79]) ?_
  intro C hC hC0 hY
  have ha := inV_of (m' := 536870912) h (by omega)
  have hb9 := inV_of (m' := 536870912) k (by omega)
  have hd := inV_of (m' := 536870912) ⟨sub_in h.1 k.1, sub_in h.2.1 k.2.1, sub_in h.2.2 k.2.2⟩ (by omega)
  have T := told9K hd
  unfold inW at h k
  have q0 : Int.bmod (a0 - b0) 18446744073709551616 = a0 - b0 := bm (by omega) (by omega)
  have q1 : Int.bmod (a1 - b1) 18446744073709551616 = a1 - b1 := bm (by omega) (by omega)
  have q2 : Int.bmod (a2 - b2) 18446744073709551616 = a2 - b2 := bm (by omega) (by omega)
  repeat' (first | apply gwS | simp only [wN, wM, Nat.reduceAdd, Nat.reduceMul] | ((first | refine gwR [97] ?_ | refine gwD [97] ?_); intro Q hQ hP; simp [hC, hY, q0, q1, q2, T]; (repeat ((first | (refine heapK_slB (fine9_2 ha hb9) (by simp) (by simp) (by simp) ?_ ?_; focus (simp; done))); try simp [hC, hY, q0, q1, q2, T])); (first | refine hQ _ _ _ _ (by kernel_rfl) ?_ | refine hP _ _ (by kernel_rfl) fun _ => ?_); clear hQ hP Q) | apply gwB | apply gwT | apply gwK | apply gwE | apply gwG | apply gwL | simp only [blockG_exit] | (refine gwC ?_ ?_ <;> (intro hb; first | (cases hb; done) | skip)))
  refine ⟨.inr trivial, ?_⟩
  simp [Tryz.results79]
theorem sub9K {a0 a1 a2 b0 b1 b2 : Int} (h : inW 1048576 a0 ∧ inW 1048576 a1 ∧ inW 1048576 a2) (k : inW 1048576 b0 ∧ inW 1048576 b1 ∧ inW 1048576 b2) (K : Value → Prop) : callK Tryz.prog G0 79 #[.agg #[.int .i64 a0, .int .i64 a1, .int .i64 a2], .agg #[.int .i64 b0, .int .i64 b1, .int .i64 b2]] K ↔ K (.tuple #[.agg #[.int .i64 (a0 - b0), .int .i64 (a1 - b1), .int .i64 (a2 - b2)], .int .i64 0]) := callK_iff G0W (by kernel_rfl) (sub9_ret h k)
theorem dot9_ret {a0 a1 a2 b0 b1 b2 : Int} (h : inW 2097152 a0 ∧ inW 2097152 a1 ∧ inW 2097152 a2) : Ret Tryz.prog G0 80 #[.agg #[.int .i64 a0, .int .i64 a1, .int .i64 a2], .agg #[.int .i64 a0, .int .i64 a1, .int .i64 a2]] (.tuple #[.int .i64 (a0 * a0 + a1 * a1 + a2 * a2), .int .i64 0]) := by
  refine ret_of G0F Tryz.func80 rfl Tryz.call80 (by simp) (by simp) (by simp [Tryz.ntmps80]) ?_
  intro C hC hC0 hY
  have ha := inV_of (m' := 536870912) h (by omega)
  have s0 := sq_in h.1
  have s1 := sq_in h.2.1
  have s2 := sq_in h.2.2
  have q0 : Int.bmod (a0 * a0) 18446744073709551616 = a0 * a0 := bm (by omega) (by omega)
  have q1 : Int.bmod (a1 * a1) 18446744073709551616 = a1 * a1 := bm (by omega) (by omega)
  have q2 : Int.bmod (a2 * a2) 18446744073709551616 = a2 * a2 := bm (by omega) (by omega)
  have q3 : Int.bmod (a0 * a0 + a1 * a1) 18446744073709551616 = a0 * a0 + a1 * a1 := bm (by omega) (by omega)
  have q4 : Int.bmod (a0 * a0 + a1 * a1 + a2 * a2) 18446744073709551616 = a0 * a0 + a1 * a1 + a2 * a2 := bm (by omega) (by omega)
  repeat' (first | apply gwS | simp only [wN, wM, Nat.reduceAdd, Nat.reduceMul] | ((first | refine gwR [97] ?_ | refine gwD [97] ?_); intro Q hQ hP; simp [hC, hY, q0, q1, q2, q3, q4]; (repeat ((first | (refine heapK_slB (fine9_2 ha ha) (by simp) (by simp) (by simp) ?_ ?_; focus (simp; done))); try simp [hC, hY, q0, q1, q2, q3, q4])); (first | refine hQ _ _ _ _ (by kernel_rfl) ?_ | refine hP _ _ (by kernel_rfl) fun _ => ?_); clear hQ hP Q) | apply gwB | apply gwT | apply gwK | apply gwE | apply gwG | apply gwL | simp only [blockG_exit] | (refine gwC ?_ ?_ <;> (intro hb; first | (cases hb; done) | skip)))
  refine ⟨.inr trivial, ?_⟩
  simp [Tryz.results80]
theorem dot9K {a0 a1 a2 : Int} (h : inW 2097152 a0 ∧ inW 2097152 a1 ∧ inW 2097152 a2) (K : Value → Prop) : callK Tryz.prog G0 80 #[.agg #[.int .i64 a0, .int .i64 a1, .int .i64 a2], .agg #[.int .i64 a0, .int .i64 a1, .int .i64 a2]] K ↔ K (.tuple #[.int .i64 (a0 * a0 + a1 * a1 + a2 * a2), .int .i64 0]) := callK_iff G0W (by kernel_rfl) (dot9_ret (b0 := 0) (b1 := 0) (b2 := 0) h)
theorem far9_ret {a0 a1 a2 b0 b1 b2 : Int} (h : inW 1048576 a0 ∧ inW 1048576 a1 ∧ inW 1048576 a2) (k : inW 1048576 b0 ∧ inW 1048576 b1 ∧ inW 1048576 b2) : Ret Tryz.prog G0 48 #[.agg #[.int .i64 a0, .int .i64 a1, .int .i64 a2], .agg #[.int .i64 b0, .int .i64 b1, .int .i64 b2]] (.tuple #[.int .i64 ((a0 - b0) * (a0 - b0) + (a1 - b1) * (a1 - b1) + (a2 - b2) * (a2 - b2)), .int .i64 0]) := by
  refine ret_of G0F Tryz.func48 rfl Tryz.call48 (by simp) (by simp) (by simp [Tryz.ntmps48]) ?_
  intro C hC hC0 hY
  have S := sub9K h k
  have T := dot9K (a0 := a0 - b0) (a1 := a1 - b1) (a2 := a2 - b2) ⟨sub_in h.1 k.1, sub_in h.2.1 k.2.1, sub_in h.2.2 k.2.2⟩
  repeat' (first | apply gwS | simp only [wN, wM, Nat.reduceAdd, Nat.reduceMul] | ((first | refine gwR [] ?_ | refine gwD [] ?_); intro Q hQ hP; simp [hC, hY, S, T]; (first | refine hQ _ _ _ _ (by kernel_rfl) ?_ | refine hP _ _ (by kernel_rfl) fun _ => ?_); clear hQ hP Q) | apply gwB | apply gwT | apply gwK | apply gwE | apply gwG | apply gwL | simp only [blockG_exit] | (refine gwC ?_ ?_ <;> (intro hb; first | (cases hb; done) | skip)))
  refine ⟨.inr trivial, ?_⟩
  simp [Tryz.results48]
theorem far9K {a0 a1 a2 b0 b1 b2 : Int} (h : inW 1048576 a0 ∧ inW 1048576 a1 ∧ inW 1048576 a2) (k : inW 1048576 b0 ∧ inW 1048576 b1 ∧ inW 1048576 b2) (K : Value → Prop) : callK Tryz.prog G0 48 #[.agg #[.int .i64 a0, .int .i64 a1, .int .i64 a2], .agg #[.int .i64 b0, .int .i64 b1, .int .i64 b2]] K ↔ K (.tuple #[.int .i64 ((a0 - b0) * (a0 - b0) + (a1 - b1) * (a1 - b1) + (a2 - b2) * (a2 - b2)), .int .i64 0]) := callK_iff G0W (by kernel_rfl) (far9_ret h k)
def mnI (f : Nat → Int) (i : Nat) (m : Int) : Nat → Int
  | 0 => m
  | k + 1 => if d2F f i k < mnI f i m k then d2F f i k else mnI f i m k
def mnO (f : Nat → Int) : Nat → Int
  | 0 => 4611686018427387904
  | i + 1 => mnI f i (mnO f i) i
theorem sq_nn (a : Int) : 0 ≤ a * a := by
  by_cases h : 0 ≤ a
  · exact Int.mul_nonneg h h
  · rw [← Int.neg_mul_neg]
    exact Int.mul_nonneg (by omega) (by omega)
theorem d2F_nn (f : Nat → Int) (i k : Nat) : 0 ≤ d2F f i k := by
  have h0 := sq_nn (f (6 * i) - f (6 * k))
  have h1 := sq_nn (f (6 * i + 1) - f (6 * k + 1))
  have h2 := sq_nn (f (6 * i + 2) - f (6 * k + 2))
  unfold d2F
  omega
theorem mnI_0 (f : Nat → Int) (i : Nat) {m : Int} (hm : 0 ≤ m) : ∀ k : Nat, 0 ≤ mnI f i m k ∧ (mnI f i m k = 0 ↔ m = 0 ∨ ∃ j, j < k ∧ d2F f i j = 0)
  | 0 => ⟨hm, ⟨fun h => .inl h, fun h => h.elim id fun ⟨j, h1, _⟩ => by omega⟩⟩
  | k + 1 => by
    obtain ⟨h1, h2⟩ := mnI_0 f i hm k
    have h3 := d2F_nn f i k
    have e : mnI f i m (k + 1) = if d2F f i k < mnI f i m k then d2F f i k else mnI f i m k := rfl
    rw [e]
    split
    · refine ⟨h3, fun h => .inr ⟨k, by omega, h⟩, fun h => ?_⟩
      rcases h with h | ⟨j, hj, hz⟩
      · have := h2.2 (.inl h)
        omega
      · by_cases hjk : j = k
        · rw [← hjk]; exact hz
        · have := h2.2 (.inr ⟨j, by omega, hz⟩)
          omega
    · refine ⟨h1, fun h => ?_, fun h => ?_⟩
      · rcases h2.1 h with h | ⟨j, hj, hz⟩
        · exact .inl h
        · exact .inr ⟨j, by omega, hz⟩
      · rcases h with h | ⟨j, hj, hz⟩
        · exact h2.2 (.inl h)
        · by_cases hjk : j = k
          · rw [hjk] at hz
            omega
          · exact h2.2 (.inr ⟨j, by omega, hz⟩)
theorem mnO_0 (f : Nat → Int) : ∀ n : Nat, 0 ≤ mnO f n ∧ (mnO f n = 0 ↔ ∃ i j, j < i ∧ i < n ∧ d2F f i j = 0)
  | 0 => ⟨by show (0 : Int) ≤ 4611686018427387904; decide, ⟨fun h => absurd (show (4611686018427387904 : Int) = 0 from h) (by decide), fun ⟨i, j, _, h, _⟩ => by omega⟩⟩
  | n + 1 => by
    obtain ⟨h1, h2⟩ := mnO_0 f n
    obtain ⟨h3, h4⟩ := mnI_0 f n h1 n
    refine ⟨h3, fun h => ?_, fun h => ?_⟩
    · rcases h4.1 h with h | ⟨j, hj, hz⟩
      · obtain ⟨i, j, a, b, c⟩ := h2.1 h
        exact ⟨i, j, a, by omega, c⟩
      · exact ⟨n, j, hj, by omega, hz⟩
    · obtain ⟨i, j, a, b, c⟩ := h
      refine h4.2 ?_
      by_cases e : i = n
      · subst e
        exact .inr ⟨j, a, c⟩
      · exact .inl (h2.2 ⟨i, j, a, by omega, c⟩)
theorem mnO_z {st : Int} {fs : Nat → Int} {n : Nat} (r : rightB st fs n = true) : mnO fs n = 0 ↔ ¬ potZ fs n = 0 := by
  rw [(mnO_0 fs n).2, (pot_d2 (g := 0) (fm := fs) r).2.2, sum2_zero (fun i k => by by_cases c : d2F fs i k = 0 <;> simp [c])]
  constructor
  · rintro ⟨i, j, a, b, c⟩ h
    have := h i j a b
    simp [c] at this
  · intro h
    refine Classical.byContradiction fun h2 => h fun i k a b => if_neg fun c => h2 ⟨i, k, a, b, c⟩
theorem sb_vec0 {b : Blk} {off n : Nat} {f : Nat → Int} (h : SB b off n f) {i : Nat} (hi : i < n) : loadK Tryz.prog 51 b (off + i * 6) = some (.agg #[.int .i64 (f (6 * i)), .int .i64 (f (6 * i + 1)), .int .i64 (f (6 * i + 2))]) := by
  have hbrd := Blk.fx_rd h.fx
  have := loadK_rd (P := Tryz.prog) (T := 51) (m := 3) (j := 6 * i) (tyAgg_of Tryz.isAgg51) (tySize_of Tryz.sizeOf51) (by omega) h.rd (by omega)
  rw [show off + i * 6 = off + 6 * i by omega, this, fa_3]
  rfl
def lsSt (b : Blk) (st : Int) (off n cap : Nat) (m : Int) (i : Nat) : GS :=
  ⟨tsL [(1, .pointer (some ⟨200, 0, none⟩)), (2, .int .i64 0), (3, .bool false), (4, .int .i64 m), (5, .int .i64 i)], hpL G0 [(200, stB' st 100 off n cap), (100, b)], 500, 0⟩
def lsSu (b : Blk) (st : Int) (off n cap : Nat) (m : Int) (i k : Nat) : GS :=
  ⟨tsL [(1, .pointer (some ⟨200, 0, none⟩)), (2, .int .i64 0), (3, .bool false), (4, .int .i64 m), (5, .int .i64 i), (6, .int .i64 k)], hpL G0 [(200, stB' st 100 off n cap), (100, b)], 500, 0⟩
theorem nat_succ {i n : Nat} (hi : i < n) (hn : n ≤ 4) : Int.bmod ((i : Int) + 1) 18446744073709551616 = ((i + 1 : Nat) : Int) := by
  rw [bm (by omega) (by omega)]
  rfl
set_option maxRecDepth 8000 in
set_option maxHeartbeats 4000000 in
theorem least_fun (b : Blk) (off n cap : Nat) (f : Nat → Int) (h : SB b off n f) (st : Int) (r : rightB st f n = true) :
    Fun Tryz.prog G0 20 #[.agg #[.int .i64 st, .slice (some ⟨100, off, none⟩) n cap]] (hpL G0 [(100, b)]) (keys [(100, b)]) (.ret (.tuple #[.int .i64 (if n < 2 then 0 else mnO f n), .bool (!decide (n < 2))]) []) := by
  refine fun_ofL (B := 200) G0F Tryz.func20 rfl Tryz.call20 (oneL_ok h.fx) ?_ (flatV_ids (by simp)) (by simp) (by simp) (by simp [Tryz.ntmps20]) (by omega) ?_
  · simp [idsV, idsA, idsF, ids0, keys]
  intro C hC hC0 hY
  have hr := fun ρ => Blk.fx_rn h.fx ρ
  have hid := fun D => Blk.fx_ids h.fx D
  have hri := rig10_fun b off n cap f h st
  rw [r] at hri
  have hn4 := (right_n r).2.1
  by_cases h2 : n < 2
  · have h2' : (n : Int) < 2 := by omega
    rw [if_pos h2, decide_eq_true h2]
    repeat' (first | apply gwS | simp only [wN, wM, Nat.reduceAdd, Nat.reduceMul] | ((first | refine gwR [47] ?_ | refine gwD [47] ?_); intro Q hQ hP; simp [hC, hY, h2']; (repeat ((first | (refine heapK_mv hri G0F (B := 200) (oneL_ok h.fx) (fun k => k) (fun k hk => rfl) (by simp [ren, renA, renF, ren0]) (by simp) (by simp [hr]) (by simp [keys]) (by simp [keys]; rfl) ?_)); try simp [hC, hY, h2'])); (first | refine hQ _ _ _ _ (by kernel_rfl) ?_ | refine hP _ _ (by kernel_rfl) fun _ => ?_); clear hQ hP Q) | apply gwB | apply gwT | apply gwK | apply gwE | apply gwG | apply gwL | simp only [blockG_exit] | (refine gwC ?_ ?_ <;> (intro hb; first | (cases hb; done) | skip)))
    refine ⟨.inr rfl, by simp [Tryz.results20], keep_of G0F (by simp) (by (intro k hk; first | rfl | (simp (disch := omega) only [addB, List.mem_cons, List.not_mem_nil, or_false, upd_other, hpL_cons, hpL_nil, if_neg, updL] <;> done)))⟩
  · have h2' : ¬ (n : Int) < 2 := by omega
    rw [if_neg h2, decide_eq_false h2]
    repeat' (first | apply gwS | simp only [wN, wM, Nat.reduceAdd, Nat.reduceMul] | ((first | refine gwR [47] ?_ | refine gwD [47] ?_); intro Q hQ hP; simp [hC, hY, h2']; (repeat ((first | (refine heapK_mv hri G0F (B := 200) (oneL_ok h.fx) (fun k => k) (fun k hk => rfl) (by simp [ren, renA, renF, ren0]) (by simp) (by simp [hr]) (by simp [keys]) (by simp [keys]; rfl) ?_)); try simp [hC, hY, h2'])); (first | refine hQ _ _ _ _ (by kernel_rfl) ?_ | refine hP _ _ (by kernel_rfl) fun _ => ?_); clear hQ hP Q) | apply gwB | apply gwT | apply gwK | apply gwE | apply gwG | apply gwL | simp only [blockG_exit] | (refine gwC ?_ ?_ <;> (intro hb; first | (cases hb; done) | skip)))
    refine GW_for n (fun i => lsSt b st off n cap (mnO f i) i) ?_ ?_ ?_
    · refine weakL _ 500 hC G0F (m0 := [(100, b)]) hC0 (by omega) ?_ ?_ ?_
      · simp [idsV, idsA, idsF, ids0, dom, mnO]
      · simp [stB', ids_lit, idsF, ids0, dom, hid]
      · simp
    · intro i hi
      have hi1 : (i : Int) < n := Int.ofNat_lt.2 hi
      have hz : (0 : Int) ≤ i := Int.natCast_nonneg i
      have hs1 := nat_succ hi hn4.2
      (try dsimp only)
      unfold lsSt stB'
      repeat' (first | apply gwS | simp only [wN, wM, Nat.reduceAdd, Nat.reduceMul] | ((first | refine gwR [] ?_ | refine gwD [] ?_); intro Q hQ hP; simp [hC, hY, hi1, hz]; (first | refine hQ _ _ _ _ (by kernel_rfl) ?_ | refine hP _ _ (by kernel_rfl) fun _ => ?_); clear hQ hP Q) | apply gwB | apply gwT | apply gwK | apply gwE | apply gwG | apply gwL | simp only [blockG_exit] | (refine gwC ?_ ?_ <;> (intro hb; first | (cases hb; done) | skip)))
      refine GW_for i (fun k => lsSu b st off n cap (mnI f i (mnO f i) k) i k) ?_ ?_ ?_
      · refine weakL _ 500 hC G0F (m0 := [(100, b)]) hC0 (by omega) ?_ ?_ ?_
        · simp [idsV, idsA, idsF, ids0, dom, mnI]
        · simp [stB', ids_lit, idsF, ids0, dom, hid]
        · simp
      · intro k hk
        have hk1 : (k : Int) < i := Int.ofNat_lt.2 hk
        have hk2 : (k : Int) < n := by omega
        have hkz : (0 : Int) ≤ k := Int.natCast_nonneg k
        have hs2 := nat_succ hk (by omega)
        have hv1 := sb_vec0 h hi
        have hv2 := sb_vec0 h (i := k) (by omega)
        have F9 : ∀ K : Value → Prop, callK Tryz.prog G0 48 #[.agg #[.int .i64 (f (6 * i)), .int .i64 (f (6 * i + 1)), .int .i64 (f (6 * i + 2))], .agg #[.int .i64 (f (6 * k)), .int .i64 (f (6 * k + 1)), .int .i64 (f (6 * k + 2))]] K ↔ K (.tuple #[.int .i64 (d2F f i k), .int .i64 0]) := fun K => far9K (right_b r hi).1 (right_b r (i := k) (by omega)).1 K
        (try dsimp only)
        unfold lsSu stB'
        repeat' (first | apply gwS | simp only [wN, wM, Nat.reduceAdd, Nat.reduceMul] | ((first | refine gwR [] ?_ | refine gwD [] ?_); intro Q hQ hP; simp [hC, hY, hi1, hz, hk1, hk2, hkz, hs2, hv1, hv2, F9]; (first | refine hQ _ _ _ _ (by kernel_rfl) ?_ | refine hP _ _ (by kernel_rfl) fun _ => ?_); clear hQ hP Q) | apply gwB | apply gwT | apply gwK | apply gwE | apply gwG | apply gwL | simp only [blockG_exit] | (refine gwC ?_ ?_ <;> (intro hb; first | (cases hb; done) | skip)))
        refine weakL _ 500 hC G0F (m0 := [(100, b)]) hC0 (by omega) ?_ ?_ ?_
        · simp [idsV, idsA, idsF, ids0, dom, hs2, mnI]
        · simp [stB', ids_lit, idsF, ids0, dom, hid]
        · simp
      · (try dsimp only)
        unfold lsSu stB'
        repeat' (first | apply gwS | simp only [wN, wM, Nat.reduceAdd, Nat.reduceMul] | ((first | refine gwR [] ?_ | refine gwD [] ?_); intro Q hQ hP; simp [hC, hY, hs1]; (first | refine hQ _ _ _ _ (by kernel_rfl) ?_ | refine hP _ _ (by kernel_rfl) fun _ => ?_); clear hQ hP Q) | apply gwB | apply gwT | apply gwK | apply gwE | apply gwG | apply gwL | simp only [blockG_exit] | (refine gwC ?_ ?_ <;> (intro hb; first | (cases hb; done) | skip)))
        refine weakL _ 500 hC G0F (m0 := [(100, b)]) hC0 (by omega) ?_ ?_ ?_
        · simp [idsV, idsA, idsF, ids0, dom, hs1, mnO]
        · simp [stB', ids_lit, idsF, ids0, dom, hid]
        · simp
    · (try dsimp only)
      unfold lsSt stB'
      repeat' (first | apply gwS | simp only [wN, wM, Nat.reduceAdd, Nat.reduceMul] | ((first | refine gwR [] ?_ | refine gwD [] ?_); intro Q hQ hP; simp [hC, hY]; (first | refine hQ _ _ _ _ (by kernel_rfl) ?_ | refine hP _ _ (by kernel_rfl) fun _ => ?_); clear hQ hP Q) | apply gwB | apply gwT | apply gwK | apply gwE | apply gwG | apply gwL | simp only [blockG_exit] | (refine gwC ?_ ?_ <;> (intro hb; first | (cases hb; done) | skip)))
      refine ⟨.inr rfl, by simp [Tryz.results20], keep_of G0F (by simp) (by (intro k hk; first | rfl | (simp (disch := omega) only [addB, List.mem_cons, List.not_mem_nil, or_false, upd_other, hpL_cons, hpL_nil, if_neg, updL] <;> done)))⟩
set_option maxRecDepth 8000 in
set_option maxHeartbeats 2000000 in
theorem fits16_L (L : List (Nat × Blk)) (ks : Nat) (bm bs : Blk) (hT : LTwo G0 L ks bm bs) (off n cap off2 n2 cap2 : Nat) (fm fs : Nat → Int) (hm : MB bm off n fm) (hSb : SB bs off2 n2 fs) (g bx tp nr md st : Int) :
    Fun Tryz.prog G0 19 #[cfV (.slice (some ⟨100, off, none⟩) n cap) g bx tp nr md, .agg #[.int .i64 st, .slice (some ⟨ks, off2, none⟩) n2 cap2]] (hpL G0 L) (keys L) (.ret (.bool (fitB n n2 (cfOk n fm g bx tp nr md) (rightB st fs n2))) []) := by
  refine fun_ofL (B := 200) G0F Tryz.func19 rfl Tryz.call19 hT.ok ?_ (by simp) (by simp) (by simp) (by simp [Tryz.ntmps19]) (by omega) ?_
  · simp [idsV, idsA, idsF, ids0, hT.ia, hT.ib, cfV]
  intro C hC hC0 hY
  have hA := hT.a
  have hS := hT.s
  have hne := hT.ne
  have hLow := hT.low
  have hks := hT.k1
  have hks2 := hT.k2
  have hrm := fun ρ => Blk.fx_rn hm.fx ρ
  have hrs := fun ρ => Blk.fx_rn hSb.fx ρ
  have hck := chk11_fun bm off n cap fm hm g bx tp nr md
  have hri := rig10_fun bs off2 n2 cap2 fs hSb st
  unfold fitB
  unfold cfV at hck ⊢
  cases hc : cfOk n fm g bx tp nr md with
  | false =>
    rw [hc] at hck
    rw [show (decide (n = n2) && (false && rightB st fs n2)) = false by simp]
    repeat' (first | apply gwS | simp only [wN, wM, Nat.reduceAdd, Nat.reduceMul] | ((first | refine gwR [46, 47] ?_ | refine gwD [46, 47] ?_); intro Q hQ hP; simp [hC, hY, hA, hS, hne]; (repeat ((first | (refine heapK_mv hck G0F (B := 200) (oneL_ok hm.fx) (fun k => k) (fun k hk => rfl) (by simp [ren, renA, renF, ren0, cfV]) (by simp) (by simp [hrm, hA]) (by simp [keys]) (by simp [keys]; rfl) ?_)); try simp [hC, hY, hA, hS, hne])); (first | refine hQ _ _ _ _ (by kernel_rfl) ?_ | refine hP _ _ (by kernel_rfl) fun _ => ?_); clear hQ hP Q) | apply gwB | apply gwT | apply gwK | apply gwE | apply gwG | apply gwL | simp only [blockG_exit] | (refine gwC ?_ ?_ <;> (intro hb; first | (cases hb; done) | skip)))
    refine ⟨.inr rfl, by simp [Tryz.results19], keep_of G0F (by (intro p hp; have hpb := hT.ok.big p hp; first | rfl | (simp (disch := omega) only [addB, upd_other, hpL_cons, hpL_nil, if_neg, updL, List.cons_append, List.nil_append] <;> done))) (by (intro k hk; first | exact hLow k hk | (simp (disch := omega) only [hLow, addB, List.mem_cons, List.not_mem_nil, or_false, upd_other, hpL_cons, hpL_nil, if_neg, updL, List.cons_append, List.nil_append] <;> done)))⟩
  | true =>
    rw [hc] at hck
    cases hr : rightB st fs n2 with
    | false =>
      rw [hr] at hri
      rw [show (decide (n = n2) && (true && false)) = false by simp]
      repeat' (first | apply gwS | simp only [wN, wM, Nat.reduceAdd, Nat.reduceMul] | ((first | refine gwR [46, 47] ?_ | refine gwD [46, 47] ?_); intro Q hQ hP; simp [hC, hY, hA, hS, hne]; (repeat ((first | (refine heapK_mv hck G0F (B := 200) (oneL_ok hm.fx) (fun k => k) (fun k hk => rfl) (by simp [ren, renA, renF, ren0, cfV]) (by simp) (by simp [hrm, hA]) (by simp [keys]) (by simp [keys]; rfl) ?_) | (refine heapK_mv hri G0F (B := 200) (oneL_ok hSb.fx) (fun k => if k = 100 then ks else k) (fun k hk => if_neg (by omega)) (by simp [ren, renA, renF, ren0]) (by simp) (by simp [hrs, hS, hne, hks]) (by simp [keys]) (by simp [keys]; rfl) ?_)); try simp [hC, hY, hA, hS, hne])); (first | refine hQ _ _ _ _ (by kernel_rfl) ?_ | refine hP _ _ (by kernel_rfl) fun _ => ?_); clear hQ hP Q) | apply gwB | apply gwT | apply gwK | apply gwE | apply gwG | apply gwL | simp only [blockG_exit] | (refine gwC ?_ ?_ <;> (intro hb; first | (cases hb; done) | skip)))
      refine ⟨.inr rfl, by simp [Tryz.results19], keep_of G0F (by (intro p hp; have hpb := hT.ok.big p hp; first | rfl | (simp (disch := omega) only [addB, upd_other, hpL_cons, hpL_nil, if_neg, updL, List.cons_append, List.nil_append] <;> done))) (by (intro k hk; first | exact hLow k hk | (simp (disch := omega) only [hLow, addB, List.mem_cons, List.not_mem_nil, or_false, upd_other, hpL_cons, hpL_nil, if_neg, updL, List.cons_append, List.nil_append] <;> done)))⟩
    | true =>
      rw [hr] at hri
      by_cases hn : n = n2
      · have hn' : (n : Int) = (n2 : Int) := by omega
        have hnb : ((n : Int) == (n2 : Int)) = true := by simpa using hn'
        rw [decide_eq_true hn]
        repeat' (first | apply gwS | simp only [wN, wM, Nat.reduceAdd, Nat.reduceMul] | ((first | refine gwR [46, 47] ?_ | refine gwD [46, 47] ?_); intro Q hQ hP; simp [hC, hY, hA, hS, hne, hn', hnb]; (repeat ((first | (refine heapK_mv hck G0F (B := 200) (oneL_ok hm.fx) (fun k => k) (fun k hk => rfl) (by simp [ren, renA, renF, ren0, cfV]) (by simp) (by simp [hrm, hA]) (by simp [keys]) (by simp [keys]; rfl) ?_) | (refine heapK_mv hri G0F (B := 200) (oneL_ok hSb.fx) (fun k => if k = 100 then ks else k) (fun k hk => if_neg (by omega)) (by simp [ren, renA, renF, ren0]) (by simp) (by simp [hrs, hS, hne, hks]) (by simp [keys]) (by simp [keys]; rfl) ?_)); try simp [hC, hY, hA, hS, hne, hn', hnb])); (first | refine hQ _ _ _ _ (by kernel_rfl) ?_ | refine hP _ _ (by kernel_rfl) fun _ => ?_); clear hQ hP Q) | apply gwB | apply gwT | apply gwK | apply gwE | apply gwG | apply gwL | simp only [blockG_exit] | (refine gwC ?_ ?_ <;> (intro hb; first | (cases hb; done) | skip)))
        refine ⟨.inr rfl, by simp [Tryz.results19], keep_of G0F (by (intro p hp; have hpb := hT.ok.big p hp; first | rfl | (simp (disch := omega) only [addB, upd_other, hpL_cons, hpL_nil, if_neg, updL, List.cons_append, List.nil_append] <;> done))) (by (intro k hk; first | exact hLow k hk | (simp (disch := omega) only [hLow, addB, List.mem_cons, List.not_mem_nil, or_false, upd_other, hpL_cons, hpL_nil, if_neg, updL, List.cons_append, List.nil_append] <;> done)))⟩
      · have hn' : ¬ (n : Int) = (n2 : Int) := by omega
        have hnb : ((n : Int) == (n2 : Int)) = false := by simpa using hn'
        rw [decide_eq_false hn]
        repeat' (first | apply gwS | simp only [wN, wM, Nat.reduceAdd, Nat.reduceMul] | ((first | refine gwR [46, 47] ?_ | refine gwD [46, 47] ?_); intro Q hQ hP; simp [hC, hY, hA, hS, hne, hn', hnb]; (repeat ((first | (refine heapK_mv hck G0F (B := 200) (oneL_ok hm.fx) (fun k => k) (fun k hk => rfl) (by simp [ren, renA, renF, ren0, cfV]) (by simp) (by simp [hrm, hA]) (by simp [keys]) (by simp [keys]; rfl) ?_) | (refine heapK_mv hri G0F (B := 200) (oneL_ok hSb.fx) (fun k => if k = 100 then ks else k) (fun k hk => if_neg (by omega)) (by simp [ren, renA, renF, ren0]) (by simp) (by simp [hrs, hS, hne, hks]) (by simp [keys]) (by simp [keys]; rfl) ?_)); try simp [hC, hY, hA, hS, hne, hn', hnb])); (first | refine hQ _ _ _ _ (by kernel_rfl) ?_ | refine hP _ _ (by kernel_rfl) fun _ => ?_); clear hQ hP Q) | apply gwB | apply gwT | apply gwK | apply gwE | apply gwG | apply gwL | simp only [blockG_exit] | (refine gwC ?_ ?_ <;> (intro hb; first | (cases hb; done) | skip)))
        refine ⟨.inr rfl, by simp [Tryz.results19], keep_of G0F (by (intro p hp; have hpb := hT.ok.big p hp; first | rfl | (simp (disch := omega) only [addB, upd_other, hpL_cons, hpL_nil, if_neg, updL, List.cons_append, List.nil_append] <;> done))) (by (intro k hk; first | exact hLow k hk | (simp (disch := omega) only [hLow, addB, List.mem_cons, List.not_mem_nil, or_false, upd_other, hpL_cons, hpL_nil, if_neg, updL, List.cons_append, List.nil_append] <;> done)))⟩
theorem great_L (L : List (Nat × Blk)) (ks : Nat) (bm bs : Blk) (hT : LTwo G0 L ks bm bs) (off n cap off2 n2 cap2 : Nat) (g bx tp nr md st : Int) :
    Fun Tryz.prog G0 5 #[cfV (.slice (some ⟨100, off, none⟩) n cap) g bx tp nr md, .agg #[.int .i64 st, .slice (some ⟨ks, off2, none⟩) n2 cap2]] (hpL G0 L) (keys L) (.ret (.bool (decide (9 < n) || decide (9 < n2))) []) := by
  refine fun_ofL (B := 200) G0F Tryz.func5 rfl Tryz.call5 hT.ok ?_ (by simp) (by simp) (by simp) (by simp [Tryz.ntmps5]) (by omega) ?_
  · simp [idsV, idsA, idsF, ids0, hT.ia, hT.ib, cfV]
  intro C hC hC0 hY
  have hLow := hT.low
  unfold cfV
  by_cases h1 : 9 < n
  · have h1' : (9 : Int) < (n : Int) := by omega
    rw [decide_eq_true h1, Bool.true_or]
    repeat' (first | apply gwS | simp only [wN, wM, Nat.reduceAdd, Nat.reduceMul] | ((first | refine gwR [] ?_ | refine gwD [] ?_); intro Q hQ hP; simp [hC, hY, h1']; (first | refine hQ _ _ _ _ (by kernel_rfl) ?_ | refine hP _ _ (by kernel_rfl) fun _ => ?_); clear hQ hP Q) | apply gwB | apply gwT | apply gwK | apply gwE | apply gwG | apply gwL | simp only [blockG_exit] | (refine gwC ?_ ?_ <;> (intro hb; first | (cases hb; done) | skip)))
    refine ⟨.inr rfl, by simp [Tryz.results5], keep_of G0F (by (intro p hp; have hpb := hT.ok.big p hp; first | rfl | (simp (disch := omega) only [addB, upd_other, hpL_cons, hpL_nil, if_neg, updL, List.cons_append, List.nil_append] <;> done))) (by (intro k hk; first | exact hLow k hk | (simp (disch := omega) only [hLow, addB, List.mem_cons, List.not_mem_nil, or_false, upd_other, hpL_cons, hpL_nil, if_neg, updL, List.cons_append, List.nil_append] <;> done)))⟩
  · have h1' : ¬ (9 : Int) < (n : Int) := by omega
    rw [decide_eq_false h1, Bool.false_or]
    by_cases h2 : 9 < n2
    · have h2' : (9 : Int) < (n2 : Int) := by omega
      rw [decide_eq_true h2]
      repeat' (first | apply gwS | simp only [wN, wM, Nat.reduceAdd, Nat.reduceMul] | ((first | refine gwR [] ?_ | refine gwD [] ?_); intro Q hQ hP; simp [hC, hY, h1', h2']; (first | refine hQ _ _ _ _ (by kernel_rfl) ?_ | refine hP _ _ (by kernel_rfl) fun _ => ?_); clear hQ hP Q) | apply gwB | apply gwT | apply gwK | apply gwE | apply gwG | apply gwL | simp only [blockG_exit] | (refine gwC ?_ ?_ <;> (intro hb; first | (cases hb; done) | skip)))
      refine ⟨.inr rfl, by simp [Tryz.results5], keep_of G0F (by (intro p hp; have hpb := hT.ok.big p hp; first | rfl | (simp (disch := omega) only [addB, upd_other, hpL_cons, hpL_nil, if_neg, updL, List.cons_append, List.nil_append] <;> done))) (by (intro k hk; first | exact hLow k hk | (simp (disch := omega) only [hLow, addB, List.mem_cons, List.not_mem_nil, or_false, upd_other, hpL_cons, hpL_nil, if_neg, updL, List.cons_append, List.nil_append] <;> done)))⟩
    · have h2' : ¬ (9 : Int) < (n2 : Int) := by omega
      rw [decide_eq_false h2]
      repeat' (first | apply gwS | simp only [wN, wM, Nat.reduceAdd, Nat.reduceMul] | ((first | refine gwR [] ?_ | refine gwD [] ?_); intro Q hQ hP; simp [hC, hY, h1', h2']; (first | refine hQ _ _ _ _ (by kernel_rfl) ?_ | refine hP _ _ (by kernel_rfl) fun _ => ?_); clear hQ hP Q) | apply gwB | apply gwT | apply gwK | apply gwE | apply gwG | apply gwL | simp only [blockG_exit] | (refine gwC ?_ ?_ <;> (intro hb; first | (cases hb; done) | skip)))
      refine ⟨.inr rfl, by simp [Tryz.results5], keep_of G0F (by (intro p hp; have hpb := hT.ok.big p hp; first | rfl | (simp (disch := omega) only [addB, upd_other, hpL_cons, hpL_nil, if_neg, updL, List.cons_append, List.nil_append] <;> done))) (by (intro k hk; first | exact hLow k hk | (simp (disch := omega) only [hLow, addB, List.mem_cons, List.not_mem_nil, or_false, upd_other, hpL_cons, hpL_nil, if_neg, updL, List.cons_append, List.nil_append] <;> done)))⟩
theorem great_00 (g bx tp nr md st : Int) : Ret Tryz.prog G0 5 #[.agg #[.slice none 0 0, .int .i64 g, .int .i64 bx, .int .i64 tp, .int .i64 nr, .int .i64 md], .agg #[.int .i64 st, .slice none 0 0]] (.bool false) := by
  refine ret_of G0F Tryz.func5 rfl Tryz.call5 (by simp) (by simp) (by simp [Tryz.ntmps5]) ?_
  intro C hC hC0 hY
  repeat' (first | apply gwS | simp only [wN, wM, Nat.reduceAdd, Nat.reduceMul] | ((first | refine gwR [] ?_ | refine gwD [] ?_); intro Q hQ hP; simp [hC, hY]; (first | refine hQ _ _ _ _ (by kernel_rfl) ?_ | refine hP _ _ (by kernel_rfl) fun _ => ?_); clear hQ hP Q) | apply gwB | apply gwT | apply gwK | apply gwE | apply gwG | apply gwL | simp only [blockG_exit] | (refine gwC ?_ ?_ <;> (intro hb; first | (cases hb; done) | skip)))
  refine ⟨.inr trivial, ?_⟩
  simp [Tryz.results5]
theorem great00K (g bx tp nr md st : Int) (K : Value → Prop) : callK Tryz.prog G0 5 #[.agg #[.slice none 0 0, .int .i64 g, .int .i64 bx, .int .i64 tp, .int .i64 nr, .int .i64 md], .agg #[.int .i64 st, .slice none 0 0]] K ↔ K (.bool false) := callK_iff G0W (by kernel_rfl) (great_00 g bx tp nr md st)
theorem fits_00 (g bx tp nr md st : Int) : Ret Tryz.prog G0 19 #[.agg #[.slice none 0 0, .int .i64 g, .int .i64 bx, .int .i64 tp, .int .i64 nr, .int .i64 md], .agg #[.int .i64 st, .slice none 0 0]] (.bool false) := by
  refine ret_of G0F Tryz.func19 rfl Tryz.call19 (by simp) (by simp) (by simp [Tryz.ntmps19]) ?_
  intro C hC hC0 hY
  repeat' (first | apply gwS | simp only [wN, wM, Nat.reduceAdd, Nat.reduceMul] | ((first | refine gwR [] ?_ | refine gwD [] ?_); intro Q hQ hP; simp [hC, hY]; (first | refine hQ _ _ _ _ (by kernel_rfl) ?_ | refine hP _ _ (by kernel_rfl) fun _ => ?_); clear hQ hP Q) | apply gwB | apply gwT | apply gwK | apply gwE | apply gwG | apply gwL | simp only [blockG_exit] | (refine gwC ?_ ?_ <;> (intro hb; first | (cases hb; done) | skip)))
  refine ⟨.inr trivial, ?_⟩
  simp [Tryz.results19]
theorem fits00K (g bx tp nr md st : Int) (K : Value → Prop) : callK Tryz.prog G0 19 #[.agg #[.slice none 0 0, .int .i64 g, .int .i64 bx, .int .i64 tp, .int .i64 nr, .int .i64 md], .agg #[.int .i64 st, .slice none 0 0]] K ↔ K (.bool false) := callK_iff G0W (by kernel_rfl) (fits_00 g bx tp nr md st)
theorem great_0s (b : Blk) (off n cap : Nat) (f : Nat → Int) (h : SB b off n f) (g bx tp nr md st : Int) : Fun Tryz.prog G0 5 #[.agg #[.slice none 0 0, .int .i64 g, .int .i64 bx, .int .i64 tp, .int .i64 nr, .int .i64 md], .agg #[.int .i64 st, .slice (some ⟨100, off, none⟩) n cap]] (hpL G0 [(100, b)]) (keys [(100, b)]) (.ret (.bool (decide (9 < n))) []) := by
  refine fun_ofL (B := 200) G0F Tryz.func5 rfl Tryz.call5 (oneL_ok h.fx) ?_ (by simp) (by simp) (by simp) (by simp [Tryz.ntmps5]) (by omega) ?_
  · simp [idsV, idsA, idsF, ids0, keys]
  intro C hC hC0 hY
  have hr := fun ρ => Blk.fx_rn h.fx ρ
  by_cases h1 : 9 < n
  · have h1' : (9 : Int) < (n : Int) := by omega
    rw [decide_eq_true h1]
    repeat' (first | apply gwS | simp only [wN, wM, Nat.reduceAdd, Nat.reduceMul] | ((first | refine gwR [] ?_ | refine gwD [] ?_); intro Q hQ hP; simp [hC, hY, h1']; (first | refine hQ _ _ _ _ (by kernel_rfl) ?_ | refine hP _ _ (by kernel_rfl) fun _ => ?_); clear hQ hP Q) | apply gwB | apply gwT | apply gwK | apply gwE | apply gwG | apply gwL | simp only [blockG_exit] | (refine gwC ?_ ?_ <;> (intro hb; first | (cases hb; done) | skip)))
    refine ⟨.inr rfl, by simp [Tryz.results5], keep_of G0F (by simp) (by (intro k hk; first | rfl | (simp (disch := omega) only [addB, List.mem_cons, List.not_mem_nil, or_false, upd_other, hpL_cons, hpL_nil, if_neg, updL] <;> done)))⟩
  · have h1' : ¬ (9 : Int) < (n : Int) := by omega
    rw [decide_eq_false h1]
    repeat' (first | apply gwS | simp only [wN, wM, Nat.reduceAdd, Nat.reduceMul] | ((first | refine gwR [] ?_ | refine gwD [] ?_); intro Q hQ hP; simp [hC, hY, h1']; (first | refine hQ _ _ _ _ (by kernel_rfl) ?_ | refine hP _ _ (by kernel_rfl) fun _ => ?_); clear hQ hP Q) | apply gwB | apply gwT | apply gwK | apply gwE | apply gwG | apply gwL | simp only [blockG_exit] | (refine gwC ?_ ?_ <;> (intro hb; first | (cases hb; done) | skip)))
    refine ⟨.inr rfl, by simp [Tryz.results5], keep_of G0F (by simp) (by (intro k hk; first | rfl | (simp (disch := omega) only [addB, List.mem_cons, List.not_mem_nil, or_false, upd_other, hpL_cons, hpL_nil, if_neg, updL] <;> done)))⟩
theorem great_s0 (b : Blk) (off n cap : Nat) (f : Nat → Int) (h : MB b off n f) (g bx tp nr md st : Int) : Fun Tryz.prog G0 5 #[.agg #[.slice (some ⟨100, off, none⟩) n cap, .int .i64 g, .int .i64 bx, .int .i64 tp, .int .i64 nr, .int .i64 md], .agg #[.int .i64 st, .slice none 0 0]] (hpL G0 [(100, b)]) (keys [(100, b)]) (.ret (.bool (decide (9 < n))) []) := by
  refine fun_ofL (B := 200) G0F Tryz.func5 rfl Tryz.call5 (oneL_ok h.fx) ?_ (by simp) (by simp) (by simp) (by simp [Tryz.ntmps5]) (by omega) ?_
  · simp [idsV, idsA, idsF, ids0, keys]
  intro C hC hC0 hY
  have hr := fun ρ => Blk.fx_rn h.fx ρ
  by_cases h1 : 9 < n
  · have h1' : (9 : Int) < (n : Int) := by omega
    rw [decide_eq_true h1]
    repeat' (first | apply gwS | simp only [wN, wM, Nat.reduceAdd, Nat.reduceMul] | ((first | refine gwR [] ?_ | refine gwD [] ?_); intro Q hQ hP; simp [hC, hY, h1']; (first | refine hQ _ _ _ _ (by kernel_rfl) ?_ | refine hP _ _ (by kernel_rfl) fun _ => ?_); clear hQ hP Q) | apply gwB | apply gwT | apply gwK | apply gwE | apply gwG | apply gwL | simp only [blockG_exit] | (refine gwC ?_ ?_ <;> (intro hb; first | (cases hb; done) | skip)))
    refine ⟨.inr rfl, by simp [Tryz.results5], keep_of G0F (by simp) (by (intro k hk; first | rfl | (simp (disch := omega) only [addB, List.mem_cons, List.not_mem_nil, or_false, upd_other, hpL_cons, hpL_nil, if_neg, updL] <;> done)))⟩
  · have h1' : ¬ (9 : Int) < (n : Int) := by omega
    rw [decide_eq_false h1]
    repeat' (first | apply gwS | simp only [wN, wM, Nat.reduceAdd, Nat.reduceMul] | ((first | refine gwR [] ?_ | refine gwD [] ?_); intro Q hQ hP; simp [hC, hY, h1']; (first | refine hQ _ _ _ _ (by kernel_rfl) ?_ | refine hP _ _ (by kernel_rfl) fun _ => ?_); clear hQ hP Q) | apply gwB | apply gwT | apply gwK | apply gwE | apply gwG | apply gwL | simp only [blockG_exit] | (refine gwC ?_ ?_ <;> (intro hb; first | (cases hb; done) | skip)))
    refine ⟨.inr rfl, by simp [Tryz.results5], keep_of G0F (by simp) (by (intro k hk; first | rfl | (simp (disch := omega) only [addB, List.mem_cons, List.not_mem_nil, or_false, upd_other, hpL_cons, hpL_nil, if_neg, updL] <;> done)))⟩
theorem fits_0s (b : Blk) (off n cap : Nat) (f : Nat → Int) (h : SB b off n f) (g bx tp nr md st : Int) : Fun Tryz.prog G0 19 #[.agg #[.slice none 0 0, .int .i64 g, .int .i64 bx, .int .i64 tp, .int .i64 nr, .int .i64 md], .agg #[.int .i64 st, .slice (some ⟨100, off, none⟩) n cap]] (hpL G0 [(100, b)]) (keys [(100, b)]) (.ret (.bool false) []) := by
  refine fun_ofL (B := 200) G0F Tryz.func19 rfl Tryz.call19 (oneL_ok h.fx) ?_ (by simp) (by simp) (by simp) (by simp [Tryz.ntmps19]) (by omega) ?_
  · simp [idsV, idsA, idsF, ids0, keys]
  intro C hC hC0 hY
  have hr := fun ρ => Blk.fx_rn h.fx ρ
  repeat' (first | apply gwS | simp only [wN, wM, Nat.reduceAdd, Nat.reduceMul] | ((first | refine gwR [] ?_ | refine gwD [] ?_); intro Q hQ hP; simp [hC, hY]; (first | refine hQ _ _ _ _ (by kernel_rfl) ?_ | refine hP _ _ (by kernel_rfl) fun _ => ?_); clear hQ hP Q) | apply gwB | apply gwT | apply gwK | apply gwE | apply gwG | apply gwL | simp only [blockG_exit] | (refine gwC ?_ ?_ <;> (intro hb; first | (cases hb; done) | skip)))
  refine ⟨.inr rfl, by simp [Tryz.results19], keep_of G0F (by simp) (by (intro k hk; first | rfl | (simp (disch := omega) only [addB, List.mem_cons, List.not_mem_nil, or_false, upd_other, hpL_cons, hpL_nil, if_neg, updL] <;> done)))⟩
theorem fits_s0 (b : Blk) (off n cap : Nat) (f : Nat → Int) (h : MB b off n f) (g bx tp nr md st : Int) : Fun Tryz.prog G0 19 #[.agg #[.slice (some ⟨100, off, none⟩) n cap, .int .i64 g, .int .i64 bx, .int .i64 tp, .int .i64 nr, .int .i64 md], .agg #[.int .i64 st, .slice none 0 0]] (hpL G0 [(100, b)]) (keys [(100, b)]) (.ret (.bool false) []) := by
  refine fun_ofL (B := 200) G0F Tryz.func19 rfl Tryz.call19 (oneL_ok h.fx) ?_ (by simp) (by simp) (by simp) (by simp [Tryz.ntmps19]) (by omega) ?_
  · simp [idsV, idsA, idsF, ids0, keys]
  intro C hC hC0 hY
  have hr := fun ρ => Blk.fx_rn h.fx ρ
  have hck := chk11_fun b off n cap f h g bx tp nr md
  unfold cfV at hck
  cases ok : cfOk n f g bx tp nr md with
  | false =>
    rw [ok] at hck
    simp only [Bool.false_eq_true, if_false] at hck
    repeat' (first | apply gwS | simp only [wN, wM, Nat.reduceAdd, Nat.reduceMul] | ((first | refine gwR [46] ?_ | refine gwD [46] ?_); intro Q hQ hP; simp [hC, hY]; (repeat ((first | (refine heapK_mv hck G0F (B := 200) (oneL_ok h.fx) (fun k => k) (fun k hk => rfl) (by simp [ren, renA, renF, ren0, cfV]) (by simp) (by simp [hr]) (by simp [keys]) (by simp [keys]; rfl) ?_)); try simp [hC, hY])); (first | refine hQ _ _ _ _ (by kernel_rfl) ?_ | refine hP _ _ (by kernel_rfl) fun _ => ?_); clear hQ hP Q) | apply gwB | apply gwT | apply gwK | apply gwE | apply gwG | apply gwL | simp only [blockG_exit] | (refine gwC ?_ ?_ <;> (intro hb; first | (cases hb; done) | skip)))
    refine ⟨.inr rfl, by simp [Tryz.results19], keep_of G0F (by simp) (by (intro k hk; first | rfl | (simp (disch := omega) only [addB, List.mem_cons, List.not_mem_nil, or_false, upd_other, hpL_cons, hpL_nil, if_neg, updL] <;> done)))⟩
  | true =>
    rw [ok] at hck
    simp only [if_true] at hck
    repeat' (first | apply gwS | simp only [wN, wM, Nat.reduceAdd, Nat.reduceMul] | ((first | refine gwR [46] ?_ | refine gwD [46] ?_); intro Q hQ hP; simp [hC, hY]; (repeat ((first | (refine heapK_mv hck G0F (B := 200) (oneL_ok h.fx) (fun k => k) (fun k hk => rfl) (by simp [ren, renA, renF, ren0, cfV]) (by simp) (by simp [hr]) (by simp [keys]) (by simp [keys]; rfl) ?_)); try simp [hC, hY])); (first | refine hQ _ _ _ _ (by kernel_rfl) ?_ | refine hP _ _ (by kernel_rfl) fun _ => ?_); clear hQ hP Q) | apply gwB | apply gwT | apply gwK | apply gwE | apply gwG | apply gwL | simp only [blockG_exit] | (refine gwC ?_ ?_ <;> (intro hb; first | (cases hb; done) | skip)))
    refine ⟨.inr rfl, by simp [Tryz.results19], keep_of G0F (by simp) (by (intro k hk; first | rfl | (simp (disch := omega) only [addB, List.mem_cons, List.not_mem_nil, or_false, upd_other, hpL_cons, hpL_nil, if_neg, updL] <;> done)))⟩
def wkM : Blk := ⟨#[.int .i64 1, .int .i64 2], .ty 3⟩
def wkS : Blk := ⟨#[.int .i64 0, .int .i64 0, .int .i64 0, .int .i64 1, .int .i64 2, .int .i64 2, .int .i64 0, .int .i64 0, .int .i64 6, .int .i64 0, .int .i64 0, .int .i64 0], .ty 53⟩
def wkm (j : Nat) : Int := if j = 0 then 1 else 2
def wkb (j : Nat) : Int := if j = 3 then 1 else if j = 4 then 2 else if j = 5 then 2 else if j = 8 then 6 else 0
theorem wkM_fx : wkM.fx := fun x hx => by simp [wkM] at hx; rcases hx with rfl | rfl <;> rfl
theorem wkS_fx : wkS.fx := fun x hx => by simp [wkS] at hx; rcases hx with rfl | rfl | rfl | rfl | rfl | rfl <;> rfl
theorem wkM_mb : MB wkM 0 2 wkm := ⟨fun j hj => by
  have : j = 0 ∨ j = 1 := by omega
  rcases this with rfl | rfl <;> rfl, wkM_fx, fun j hj => by
  have : j = 0 ∨ j = 1 := by omega
  rcases this with rfl | rfl <;> decide, by omega⟩
theorem wkS_sb : SB wkS 0 2 wkb := ⟨fun j hj => by
  have : j = 0 ∨ j = 1 ∨ j = 2 ∨ j = 3 ∨ j = 4 ∨ j = 5 ∨ j = 6 ∨ j = 7 ∨ j = 8 ∨ j = 9 ∨ j = 10 ∨ j = 11 := by omega
  rcases this with rfl | rfl | rfl | rfl | rfl | rfl | rfl | rfl | rfl | rfl | rfl | rfl <;> rfl, wkS_fx, fun j hj => by
  have : j = 0 ∨ j = 1 ∨ j = 2 ∨ j = 3 ∨ j = 4 ∨ j = 5 ∨ j = 6 ∨ j = 7 ∨ j = 8 ∨ j = 9 ∨ j = 10 ∨ j = 11 := by omega
  rcases this with rfl | rfl | rfl | rfl | rfl | rfl | rfl | rfl | rfl | rfl | rfl | rfl <;> decide, by omega⟩
theorem wk_plo {N s r : Int} (h0 : 0 ≤ r) (h1 : r * r ≤ N / s) (h2 : N / s < (r + 1) * (r + 1)) : plo N s = r := by
  unfold plo
  exact isq_unique h0 h1 h2
theorem wk_1 : enLo 1 1 1 4 = 524288 ∧ enHi 1 1 1 4 = 524288 := by
  have e : enLo 1 1 1 4 = 524288 := wk_plo (by decide) (by decide) (by decide)
  refine ⟨e, ?_⟩
  rw [en_hi_eq, e]
  decide
theorem wk_2 : enLo 1 1 1 2 = 741455 ∧ enHi 1 1 1 2 = 741456 := by
  have e : enLo 1 1 1 2 = 741455 := wk_plo (by decide) (by decide) (by decide)
  refine ⟨e, ?_⟩
  rw [en_hi_eq, e]
  decide
theorem wk_3 : enLo 3 2 1 36 = 1048576 ∧ enHi 3 2 1 36 = 1048576 := by
  have e : enLo 3 2 1 36 = 1048576 := wk_plo (by decide) (by decide) (by decide)
  refine ⟨e, ?_⟩
  rw [en_hi_eq, e]
  decide
theorem wk_sq : esqF wkb 1 0 = 36 := by decide
theorem wk_lo : potLo 3 wkm wkb 2 = 1048576 := by
  unfold potLo
  simp only [sum2, sumN, wk_sq, show wkm 1 = 2 from rfl, show wkm 0 = 1 from rfl, wk_3.1]
  decide
theorem wk_hi : potHi 3 wkm wkb 2 = 1048576 := by
  unfold potHi
  simp only [sum2, sumN, wk_sq, show wkm 1 = 2 from rfl, show wkm 0 = 1 from rfl, wk_3.2]
  decide
theorem wk_z : potZ wkb 2 = 0 := by
  unfold potZ
  simp only [sum2, sumN, wk_sq]
  decide
theorem wk_k : kinV wkm wkb 2 = 4718592 := by decide
theorem wk_ok : cfOk 2 wkm 3 1000 1000 1 0 = true := by decide
theorem wk_rt : rightB 0 wkb 2 = true := by decide
theorem wkM_rn {ρ : Nat → Nat} : wkM.rn ρ = wkM := Blk.fx_rn wkM_fx ρ
theorem wkS_rn {ρ : Nat → Nat} : wkS.rn ρ = wkS := Blk.fx_rn wkS_fx ρ
theorem epair_zat {g m w : Int} (h : EIn g m w 0) (K : Value → Prop) : callK Tryz.prog G0 7 #[.int .i64 g, .int .i64 m, .int .i64 w, .int .i64 0] K ↔ K (.tuple #[.int .i64 0, .int .i64 0, .int .i64 30]) := callK_iff G0W (by kernel_rfl) (epair_z h rfl)
theorem epair_bat {g m w q : Int} (h : ¬ EIn g m w q) (K : Value → Prop) : callK Tryz.prog G0 7 #[.int .i64 g, .int .i64 m, .int .i64 w, .int .i64 q] K ↔ K (.tuple #[.int .i64 0, .int .i64 0, .int .i64 2]) := callK_iff G0W (by kernel_rfl) (epair_bad h)
theorem wk_w (K : Value → Prop) : callK Tryz.prog G0 15 #[spV 3670016 3670016] K ↔ K (.tuple #[.int .i64 0, .bool true]) := callK_iff G0W (by kernel_rfl) (ewidth_small 3670016 3670016 (i64_wr (by decide)) (i64_wr (by decide)) (by decide) (by decide))
theorem wk_h (K : Value → Prop) : callK Tryz.prog G0 17 #[spV 3670016 3670016, wd 3670016] K ↔ K (.bool true) := by
  have e : holdB 3670016 3670016 3670016 = true := by decide
  rw [← e]
  exact callK_iff G0W (by kernel_rfl) (eholds_ret 3670016 3670016 3670016)
theorem wk_n (K : Value → Prop) : callK Tryz.prog G0 17 #[spV 3670016 3670016, wd 0] K ↔ K (.bool false) := by
  have e : holdB 3670016 3670016 0 = false := by decide
  rw [← e]
  exact callK_iff G0W (by kernel_rfl) (eholds_ret 3670016 3670016 0)
set_option maxRecDepth 100000 in
set_option maxHeartbeats 4000000 in
theorem wakes22_ret : Ret Tryz.prog G0 6 #[] (.bool true) := by
  refine ret_of G0F Tryz.func6 rfl Tryz.call6 rfl (by simp) (by simp [Tryz.ntmps6]) ?_
  intro C hC hC0 hY
  have p1 := epair_at (g := 1) (m := 1) (w := 1) (q := 4) (by constructor <;> decide) (by decide) wk_1.1 wk_1.2
  have p2 := epair_at (g := 1) (m := 1) (w := 1) (q := 2) (by constructor <;> decide) (by decide) wk_2.1 wk_2.2
  have p3 := epair_zat (g := 1) (m := 1) (w := 1) (by constructor <;> decide)
  have p4 := epair_bat (g := 0) (m := 1) (w := 1) (q := 0) (fun h => absurd h.g0 (by decide))
  have hT := LTwo.two (G := G0) wkM_fx wkS_fx
  have hki := ekin_L _ _ wkM wkS hT 0 2 2 0 2 2 wkm wkb wkM_mb wkS_sb (by omega) (by omega) 3 1000 1000 1 0 0 (by decide)
  have hen := eEnergy_fit _ _ wkM wkS hT 0 2 2 0 2 wkm wkb wkM_mb wkS_sb (by omega) (by omega) 3 1000 1000 1 0 0 (by decide) wk_ok wk_rt wk_z
  unfold kinW kinE at hki
  rw [fitB_iff.2 ⟨rfl, wk_ok, wk_rt⟩, if_pos rfl, if_pos rfl, wk_k] at hki
  rw [wk_k, wk_lo, wk_hi] at hen
  unfold cfV spV at hen
  unfold cfV at hki
  have ww := wk_w
  have wh := wk_h
  have wn := wk_n
  unfold spV at ww wh wn
  unfold wd at wh wn
  simp only [wi_zero] at wn
  have o1 : i64 4718592 := by decide
  have o2 : i64 3670016 := by decide
  repeat' (first | apply gwS | simp only [wN, wM, Nat.reduceAdd, Nat.reduceMul] | ((first | refine gwR [9, 13] ?_ | refine gwD [9, 13] ?_); intro Q hQ hP; simp [hC, hY, p1, p2, p3, p4, wi_zero, ww, wh, wn, o1, o2]; (repeat ((first | (refine heapK_mv hki G0F hT.ok (fun k => if k = 100 then 464 else if k = 108 then 528 else k) (fun k hk => (if_neg (by omega)).trans (if_neg (by omega))) ?_ (by simp) (by simp [wkM_rn, wkS_rn]; simp [wkM, wkS]; kernel_rfl) (by simp [keys]) (by simp [keys]; rfl) ?_; focus (simp [ren, renA, renF, ren0]; done)) | (refine heapK_mv hen G0F hT.ok (fun k => if k = 100 then 464 else if k = 108 then 528 else k) (fun k hk => (if_neg (by omega)).trans (if_neg (by omega))) ?_ (by simp) (by simp [wkM_rn, wkS_rn]; simp [wkM, wkS]; kernel_rfl) (by simp [keys]) (by simp [keys]; rfl) ?_; focus (simp [ren, renA, renF, ren0]; done))); try simp [hC, hY, p1, p2, p3, p4, wi_zero, ww, wh, wn, o1, o2])); (first | refine hQ _ _ _ _ (by kernel_rfl) ?_ | refine hP _ _ (by kernel_rfl) fun _ => ?_); clear hQ hP Q) | apply gwB | apply gwT | apply gwK | apply gwE | apply gwG | apply gwL | simp only [blockG_exit] | (refine gwC ?_ ?_ <;> (intro hb; first | (cases hb; done) | skip)))
  refine ⟨.inr trivial, ?_⟩
  simp [Tryz.results6]
theorem pS_two {F H : Nat → Nat → Int} : ∀ {l : List (Nat × Nat)}, (∀ p ∈ l, 0 ≤ F p.1 p.2 ∧ F p.1 p.2 ≤ H p.1 p.2 ∧ H p.1 p.2 ≤ F p.1 p.2 + 1 ∧ H p.1 p.2 ≤ 1152921504606846976) → 0 ≤ pS F l ∧ pS F l ≤ pS H l ∧ pS H l ≤ pS F l + l.length ∧ pS H l ≤ l.length * 1152921504606846976
  | [], _ => by simp [pS]
  | p :: l, h => by
    have h1 := pS_two (l := l) fun q hq => h q (List.mem_cons_of_mem _ hq)
    have h2 := h p (by simp)
    simp only [pS, List.length_cons, Int.natCast_succ, Int.add_mul]
    omega
theorem pot_in {n : Nat} {fm fs : Nat → Int} {g bx tp nr md st : Int} (c : cfOk n fm g bx tp nr md = true) (r : rightB st fs n = true) (hz : potZ fs n = 0) : 0 ≤ potLo g fm fs n ∧ potLo g fm fs n ≤ potHi g fm fs n ∧ potHi g fm fs n ≤ potLo g fm fs n + (epIx n).length ∧ potHi g fm fs n ≤ 6917529027641081856 := by
  have hn := (right_n r).2.1
  unfold potLo potHi
  rw [sum2_ep _ hn, sum2_ep _ hn]
  have h := pS_two (F := fun i k => enLo g (fm i) (fm k) (esqF fs i k)) (H := fun i k => enHi g (fm i) (fm k) (esqF fs i k)) (l := epIx n) (fun p hp => by
    obtain ⟨hl1, hl2⟩ := epIx_lt hp
    have hsq := esq_in r (i := p.1) (k := p.2) hl2 (by omega)
    have hz1 : ¬ esqF fs p.1 p.2 = 0 := fun e => by
      have := (sum2_zero (Z := fun i k => if esqF fs i k = 0 then 1 else 0) (fun i k => by by_cases c : esqF fs i k = 0 <;> simp [c]) n).1 hz p.1 p.2 hl1 hl2
      simp [e] at this
    have hg := cfOk_g c
    have hm1 := cfOk_mass c (i := p.1) hl2
    have hm2 := cfOk_mass c (i := p.2) (by omega)
    have hEI : EIn g (fm p.1) (fm p.2) (esqF fs p.1 p.2) := ⟨hg.1, hg.2, hm1.1, hm1.2, hm2.1, hm2.2, hsq.1, hsq.2⟩
    have hlo := hEI.lo (by omega)
    have hhi := hEI.hi (by omega)
    exact ⟨hlo.1, hhi.1, hhi.2.1, hhi.2.2⟩)
  have hl := epIx_len n
  exact ⟨h.1, h.2.1, h.2.2.1, by have := h.2.2.2; omega⟩
theorem kin_in {n : Nat} {fm fs : Nat → Int} {g bx tp nr md st : Int} (c : cfOk n fm g bx tp nr md = true) (r : rightB st fs n = true) : 0 ≤ kinV fm fs n ∧ kinV fm fs n ≤ 27670116110564327424 := by
  have hn := (right_n r).2.1
  have h := sumN_bd (f := kinF fm fs) (lo := 0) (hi := 13194139533312) (n := n) fun i hi => kinF_bd c r hi
  unfold kinV
  generalize sumN (kinF fm fs) n = S at *
  have : n = 1 ∨ n = 2 ∨ n = 3 ∨ n = 4 := by omega
  rcases this with rfl | rfl | rfl | rfl <;> omega
theorem wq_in {n : Nat} (hn : 1 ≤ n ∧ n ≤ 4) : Int.bmod ((n : Int) - 1) 18446744073709551616 = (n : Int) - 1 ∧ Int.bmod ((n : Int) * ((n : Int) - 1)) 18446744073709551616 = (n : Int) * ((n : Int) - 1) ∧ Int.bmod (Int.tdiv ((n : Int) * ((n : Int) - 1)) 2) 18446744073709551616 = Int.tdiv ((n : Int) * ((n : Int) - 1)) 2 ∧ ((epIx n).length : Int) = Int.tdiv ((n : Int) * ((n : Int) - 1)) 2 := by
  have : n = 1 ∨ n = 2 ∨ n = 3 ∨ n = 4 := by omega
  rcases this with rfl | rfl | rfl | rfl <;> decide
theorem hold_lo {lo hi : Int} (a : wr lo) (b : wr hi) (h : lo ≤ hi) : holdB lo hi lo = true ∧ holdB lo hi hi = true := by
  unfold holdB
  rw [wr_sz a, wr_sz b]
  unfold cmpI
  constructor
  · rw [if_neg (by omega), if_pos rfl]
    split
    · decide
    · rw [if_pos (by omega)]; decide
  · rw [if_neg (show ¬ hi < hi by omega), if_pos (show hi = hi from rfl)]
    split
    · decide
    · rw [if_pos (by omega)]; decide
theorem cmp_nn {x : Int} (a : wr x) (h : 0 ≤ x) : 0 ≤ cmpI (sz x) 0 := by
  rw [wr_sz a]
  unfold cmpI
  split
  · omega
  · split <;> omega
set_option maxRecDepth 8000 in
set_option maxHeartbeats 4000000 in
theorem EnergyWidth_bad (L : List (Nat × Blk)) (ks : Nat) (bm bs : Blk) (hT : LTwo G0 L ks bm bs) (off n cap : Nat) (fm : Nat → Int) (hm : MB bm off n fm) (hcap : n ≤ cap) (off2 n2 cap2 : Nat) (fs : Nat → Int) (hSb : SB bs off2 n2 fs) (hcap2 : n2 ≤ cap2) (g bx tp nr md st : Int) (hg : i64 g) (hbx : i64 bx) (htp : i64 tp) (hnr : i64 nr) (hmd : i64 md) (hs : i64 st) (hf : fitB n n2 (cfOk n fm g bx tp nr md) (rightB st fs n2) = false) :
    Fun Tryz.prog G0 4 #[cfV (.slice (some ⟨100, off, none⟩) n cap) g bx tp nr md, .agg #[.int .i64 st, .slice (some ⟨ks, off2, none⟩) n2 cap2]] (hpL G0 L) (keys L) (.ret (.bool true) []) := by
  refine fun_ofL (B := 200) G0F Tryz.func4 rfl Tryz.call4 hT.ok ?_ (by simp) (by simp) (by simp) (by simp [Tryz.ntmps4]) (by omega) ?_
  · simp [idsV, idsA, idsF, ids0, hT.ia, hT.ib, cfV]
  intro C hC hC0 hY
  have wk := wakes22_of wakes22_ret
  have hrm := fun ρ => Blk.fx_rn hm.fx ρ
  have hrs := fun ρ => Blk.fx_rn hSb.fx ρ
  have hA := hT.a
  have hS := hT.s
  have hne := hT.ne
  have hLow := hT.low
  have hks := hT.k1
  have hks2 := hT.k2
  have hnn := hSb.nn
  have hft := fits16_L L ks bm bs hT off n cap off2 n2 cap2 fm fs hm hSb g bx tp nr md st
  have hgr := great_L L ks bm bs hT off n cap off2 n2 cap2 g bx tp nr md st
  rw [hf] at hft
  unfold cfV at hft hgr ⊢
  cases hq : (decide (9 < n) || decide (9 < n2)) with
  | true =>
    rw [hq] at hgr
    repeat' (first | apply gwS | simp only [wN, wM, Nat.reduceAdd, Nat.reduceMul] | ((first | refine gwR [5, 19] ?_ | refine gwD [5, 19] ?_); intro Q hQ hP; simp [hC, hY, hA, hS, hne, wk]; (repeat ((first | (refine heapK_L hgr hT.ok (by (intro p hp; have hpb := hT.ok.big p hp; (try dsimp only); simp (disch := omega) only [addB, upd_other, hpL_cons, hpL_nil, if_neg, updL, List.cons_append, List.nil_append]; first | exact hT.mem p hp | exact cL p hp)) ?_) | (refine heapK_L hft hT.ok (by (intro p hp; have hpb := hT.ok.big p hp; (try dsimp only); simp (disch := omega) only [addB, upd_other, hpL_cons, hpL_nil, if_neg, updL, List.cons_append, List.nil_append]; first | exact hT.mem p hp | exact cL p hp)) ?_)); try simp [hC, hY, hA, hS, hne, wk])); (first | refine hQ _ _ _ _ (by kernel_rfl) ?_ | refine hP _ _ (by kernel_rfl) fun _ => ?_); clear hQ hP Q) | apply gwB | apply gwT | apply gwK | apply gwE | apply gwG | apply gwL | simp only [blockG_exit] | (refine gwC ?_ ?_ <;> (intro hb; first | (cases hb; done) | skip)))
    refine ⟨.inr rfl, by simp [Tryz.results4], keep_of G0F (by (intro p hp; have hpb := hT.ok.big p hp; first | rfl | (simp (disch := omega) only [addB, upd_other, hpL_cons, hpL_nil, if_neg, updL, List.cons_append, List.nil_append] <;> done))) (by (intro k hk; first | exact hLow k hk | (simp (disch := omega) only [hLow, addB, List.mem_cons, List.not_mem_nil, or_false, upd_other, hpL_cons, hpL_nil, if_neg, updL, List.cons_append, List.nil_append] <;> done)))⟩
  | false =>
    rw [hq] at hgr
    repeat' (first | apply gwS | simp only [wN, wM, Nat.reduceAdd, Nat.reduceMul] | ((first | refine gwR [5, 19] ?_ | refine gwD [5, 19] ?_); intro Q hQ hP; simp [hC, hY, hA, hS, hne, wk]; (repeat ((first | (refine heapK_L hgr hT.ok (by (intro p hp; have hpb := hT.ok.big p hp; (try dsimp only); simp (disch := omega) only [addB, upd_other, hpL_cons, hpL_nil, if_neg, updL, List.cons_append, List.nil_append]; first | exact hT.mem p hp | exact cL p hp)) ?_) | (refine heapK_L hft hT.ok (by (intro p hp; have hpb := hT.ok.big p hp; (try dsimp only); simp (disch := omega) only [addB, upd_other, hpL_cons, hpL_nil, if_neg, updL, List.cons_append, List.nil_append]; first | exact hT.mem p hp | exact cL p hp)) ?_)); try simp [hC, hY, hA, hS, hne, wk])); (first | refine hQ _ _ _ _ (by kernel_rfl) ?_ | refine hP _ _ (by kernel_rfl) fun _ => ?_); clear hQ hP Q) | apply gwB | apply gwT | apply gwK | apply gwE | apply gwG | apply gwL | simp only [blockG_exit] | (refine gwC ?_ ?_ <;> (intro hb; first | (cases hb; done) | skip)))
    refine ⟨.inr rfl, by simp [Tryz.results4], keep_of G0F (by (intro p hp; have hpb := hT.ok.big p hp; first | rfl | (simp (disch := omega) only [addB, upd_other, hpL_cons, hpL_nil, if_neg, updL, List.cons_append, List.nil_append] <;> done))) (by (intro k hk; first | exact hLow k hk | (simp (disch := omega) only [hLow, addB, List.mem_cons, List.not_mem_nil, or_false, upd_other, hpL_cons, hpL_nil, if_neg, updL, List.cons_append, List.nil_append] <;> done)))⟩
set_option maxRecDepth 8000 in
set_option maxHeartbeats 8000000 in
theorem EnergyWidth_fit (L : List (Nat × Blk)) (ks : Nat) (bm bs : Blk) (hT : LTwo G0 L ks bm bs) (off n cap : Nat) (fm : Nat → Int) (hm : MB bm off n fm) (hcap : n ≤ cap) (off2 n2 cap2 : Nat) (fs : Nat → Int) (hSb : SB bs off2 n2 fs) (hcap2 : n2 ≤ cap2) (g bx tp nr md st : Int) (hg : i64 g) (hbx : i64 bx) (htp : i64 tp) (hnr : i64 nr) (hmd : i64 md) (hs : i64 st) (hf : fitB n n2 (cfOk n fm g bx tp nr md) (rightB st fs n2) = true) :
    Fun Tryz.prog G0 4 #[cfV (.slice (some ⟨100, off, none⟩) n cap) g bx tp nr md, .agg #[.int .i64 st, .slice (some ⟨ks, off2, none⟩) n2 cap2]] (hpL G0 L) (keys L) (.ret (.bool true) []) := by
  refine fun_ofL (B := 200) G0F Tryz.func4 rfl Tryz.call4 hT.ok ?_ (by simp) (by simp) (by simp) (by simp [Tryz.ntmps4]) (by omega) ?_
  · simp [idsV, idsA, idsF, ids0, hT.ia, hT.ib, cfV]
  intro C hC hC0 hY
  have wk := wakes22_of wakes22_ret
  have hrm := fun ρ => Blk.fx_rn hm.fx ρ
  have hrs := fun ρ => Blk.fx_rn hSb.fx ρ
  have hA := hT.a
  have hS := hT.s
  have hne := hT.ne
  have hLow := hT.low
  have hks := hT.k1
  have hks2 := hT.k2
  have hnn := hSb.nn
  have hft := fits16_L L ks bm bs hT off n cap off2 n2 cap2 fm fs hm hSb g bx tp nr md st
  have hgr := great_L L ks bm bs hT off n cap off2 n2 cap2 g bx tp nr md st
  obtain ⟨rfl, c, r⟩ := fitB_iff.1 hf
  rw [hf] at hft
  have hn4 := (right_n r).2.1
  rw [show (decide (9 < n) || decide (9 < n)) = false by simp; omega] at hgr
  have hKi := ekin_L L ks bm bs hT off n cap off2 n cap2 fm fs hm hSb hcap hcap2 g bx tp nr md st hs
  unfold kinW kinE at hKi
  rw [hf, if_pos rfl, if_pos rfl] at hKi
  have hLe := least_fun bs off2 n cap2 fs hSb st r
  have hmz := mnO_z r
  have hT0 := kin_in c r
  by_cases hz : potZ fs n = 0
  · have hPo := epot_fit L ks bm bs hT off n cap off2 cap2 fm fs hm hSb hcap2 g bx tp nr md st hs c r hz
    have hEn := eEnergy_fit L ks bm bs hT off n cap off2 cap2 fm fs hm hSb hcap hcap2 g bx tp nr md st hs c r hz
    have hp := pot_in c r hz
    have hm0 : ¬ mnO fs n = 0 := fun e => hmz.1 e hz
    have hm1 : (mnO fs n == 0) = false := by simpa using hm0
    obtain ⟨q1, q2, q3, q4⟩ := wq_in hn4
    rw [q4] at hp
    generalize kinV fm fs n = T at *
    generalize potLo g fm fs n = lo at *
    generalize potHi g fm fs n = hh at *
    have w1 : wr (T - hh) := by unfold wr; omega
    have w2 : wr (T - lo) := by unfold wr; omega
    have w3 : wr lo := by unfold wr; omega
    have w4 : wr hh := by unfold wr; omega
    have w5 : wr T := by unfold wr; omega
    have W1 : ∀ K : Value → Prop, callK Tryz.prog G0 15 #[spV (T - hh) (T - lo)] K ↔ K (.tuple #[.int .i64 (hh - lo), .bool true]) := fun K => by
      have := ewidth_small (T - hh) (T - lo) w1 w2 (by omega) (by unfold i64; omega)
      rw [show T - lo - (T - hh) = hh - lo by omega] at this
      exact callK_iff G0W (by kernel_rfl) this
    have W2 : ∀ K : Value → Prop, callK Tryz.prog G0 15 #[spV lo hh] K ↔ K (.tuple #[.int .i64 (hh - lo), .bool true]) := fun K => callK_iff G0W (by kernel_rfl) (ewidth_small lo hh w3 w4 (by omega) (by unfold i64; omega))
    have H1 : ∀ K : Value → Prop, callK Tryz.prog G0 17 #[spV (T - hh) (T - lo), Value.agg #[.int .u64 (wi ((T - hh)) 0), .int .u64 (wi ((T - hh)) 1), .int .u64 (wi ((T - hh)) 2), .int .u64 (wi ((T - hh)) 3)]] K ↔ K (.bool true) := fun K => by
      have := eholds_ret (T - hh) (T - lo) (T - hh)
      rw [(hold_lo w1 w2 (by omega)).1] at this
      exact callK_iff G0W (by kernel_rfl) this
    have H2 : ∀ K : Value → Prop, callK Tryz.prog G0 17 #[spV (T - hh) (T - lo), Value.agg #[.int .u64 (wi ((T - lo)) 0), .int .u64 (wi ((T - lo)) 1), .int .u64 (wi ((T - lo)) 2), .int .u64 (wi ((T - lo)) 3)]] K ↔ K (.bool true) := fun K => by
      have := eholds_ret (T - hh) (T - lo) (T - lo)
      rw [(hold_lo w1 w2 (by omega)).2] at this
      exact callK_iff G0W (by kernel_rfl) this
    have s1 := cmp_nn w5 hT0.1
    have s2 := cmp_nn w3 hp.1
    have q5 : hh - lo ≤ Int.tdiv ((n : Int) * ((n : Int) - 1)) 2 := by omega
    clear hmz hp hT0 w1 w2 w3 w4 w5 q4
    unfold cfV spV at hEn hPo
    unfold cfV at hft hgr hKi ⊢
    unfold spV at W1 W2 H1 H2
    by_cases h2 : n < 2
    · rw [if_pos h2, decide_eq_true h2] at hLe
      repeat' (first | apply gwS | simp only [wN, wM, Nat.reduceAdd, Nat.reduceMul] | ((first | refine gwR [5, 19, 13, 11, 9, 20] ?_ | refine gwD [5, 19, 13, 11, 9, 20] ?_); intro Q hQ hP; simp [hC, hY, hA, hS, hne, wk, W1, W2, H1, H2, s1, s2, q1, q2, q3, q5]; (repeat ((first | (refine heapK_L hgr hT.ok (by (intro p hp; have hpb := hT.ok.big p hp; (try dsimp only); simp (disch := omega) only [addB, upd_other, hpL_cons, hpL_nil, if_neg, updL, List.cons_append, List.nil_append]; first | exact hT.mem p hp | exact cL p hp)) ?_) | (refine heapK_L hft hT.ok (by (intro p hp; have hpb := hT.ok.big p hp; (try dsimp only); simp (disch := omega) only [addB, upd_other, hpL_cons, hpL_nil, if_neg, updL, List.cons_append, List.nil_append]; first | exact hT.mem p hp | exact cL p hp)) ?_) | (refine heapK_L hEn hT.ok (by (intro p hp; have hpb := hT.ok.big p hp; (try dsimp only); simp (disch := omega) only [addB, upd_other, hpL_cons, hpL_nil, if_neg, updL, List.cons_append, List.nil_append]; first | exact hT.mem p hp | exact cL p hp)) ?_) | (refine heapK_L hPo hT.ok (by (intro p hp; have hpb := hT.ok.big p hp; (try dsimp only); simp (disch := omega) only [addB, upd_other, hpL_cons, hpL_nil, if_neg, updL, List.cons_append, List.nil_append]; first | exact hT.mem p hp | exact cL p hp)) ?_) | (refine heapK_L hKi hT.ok (by (intro p hp; have hpb := hT.ok.big p hp; (try dsimp only); simp (disch := omega) only [addB, upd_other, hpL_cons, hpL_nil, if_neg, updL, List.cons_append, List.nil_append]; first | exact hT.mem p hp | exact cL p hp)) ?_) | (refine heapK_mv hLe G0F (B := 200) (oneL_ok hSb.fx) (fun k => if k = 100 then ks else k) (fun k hk => if_neg (by omega)) (by simp [ren, renA, renF, ren0]) (by simp) (by simp [hrs, hS, hne, hks]) (by simp [keys]) (by simp [keys]; rfl) ?_)); try simp [hC, hY, hA, hS, hne, wk, W1, W2, H1, H2, s1, s2, q1, q2, q3, q5])); (first | refine hQ _ _ _ _ (by kernel_rfl) ?_ | refine hP _ _ (by kernel_rfl) fun _ => ?_); clear hQ hP Q) | apply gwB | apply gwT | apply gwK | apply gwE | apply gwG | apply gwL | simp only [blockG_exit] | (refine gwC ?_ ?_ <;> (intro hb; first | (cases hb; done) | skip)))
      refine ⟨.inr rfl, by simp [Tryz.results4], keep_of G0F (by (intro p hp; have hpb := hT.ok.big p hp; first | rfl | (simp (disch := omega) only [addB, upd_other, hpL_cons, hpL_nil, if_neg, updL, List.cons_append, List.nil_append] <;> done))) (by (intro k hk; first | exact hLow k hk | (simp (disch := omega) only [hLow, addB, List.mem_cons, List.not_mem_nil, or_false, upd_other, hpL_cons, hpL_nil, if_neg, updL, List.cons_append, List.nil_append] <;> done)))⟩
    · rw [if_neg h2, decide_eq_false h2] at hLe
      repeat' (first | apply gwS | simp only [wN, wM, Nat.reduceAdd, Nat.reduceMul] | ((first | refine gwR [5, 19, 13, 11, 9, 20] ?_ | refine gwD [5, 19, 13, 11, 9, 20] ?_); intro Q hQ hP; simp [hC, hY, hA, hS, hne, wk, W1, W2, H1, H2, s1, s2, q1, q2, q3, q5, hm0, hm1]; (repeat ((first | (refine heapK_L hgr hT.ok (by (intro p hp; have hpb := hT.ok.big p hp; (try dsimp only); simp (disch := omega) only [addB, upd_other, hpL_cons, hpL_nil, if_neg, updL, List.cons_append, List.nil_append]; first | exact hT.mem p hp | exact cL p hp)) ?_) | (refine heapK_L hft hT.ok (by (intro p hp; have hpb := hT.ok.big p hp; (try dsimp only); simp (disch := omega) only [addB, upd_other, hpL_cons, hpL_nil, if_neg, updL, List.cons_append, List.nil_append]; first | exact hT.mem p hp | exact cL p hp)) ?_) | (refine heapK_L hEn hT.ok (by (intro p hp; have hpb := hT.ok.big p hp; (try dsimp only); simp (disch := omega) only [addB, upd_other, hpL_cons, hpL_nil, if_neg, updL, List.cons_append, List.nil_append]; first | exact hT.mem p hp | exact cL p hp)) ?_) | (refine heapK_L hPo hT.ok (by (intro p hp; have hpb := hT.ok.big p hp; (try dsimp only); simp (disch := omega) only [addB, upd_other, hpL_cons, hpL_nil, if_neg, updL, List.cons_append, List.nil_append]; first | exact hT.mem p hp | exact cL p hp)) ?_) | (refine heapK_L hKi hT.ok (by (intro p hp; have hpb := hT.ok.big p hp; (try dsimp only); simp (disch := omega) only [addB, upd_other, hpL_cons, hpL_nil, if_neg, updL, List.cons_append, List.nil_append]; first | exact hT.mem p hp | exact cL p hp)) ?_) | (refine heapK_mv hLe G0F (B := 200) (oneL_ok hSb.fx) (fun k => if k = 100 then ks else k) (fun k hk => if_neg (by omega)) (by simp [ren, renA, renF, ren0]) (by simp) (by simp [hrs, hS, hne, hks]) (by simp [keys]) (by simp [keys]; rfl) ?_)); try simp [hC, hY, hA, hS, hne, wk, W1, W2, H1, H2, s1, s2, q1, q2, q3, q5, hm0, hm1])); (first | refine hQ _ _ _ _ (by kernel_rfl) ?_ | refine hP _ _ (by kernel_rfl) fun _ => ?_); clear hQ hP Q) | apply gwB | apply gwT | apply gwK | apply gwE | apply gwG | apply gwL | simp only [blockG_exit] | (refine gwC ?_ ?_ <;> (intro hb; first | (cases hb; done) | skip)))
      refine ⟨.inr rfl, by simp [Tryz.results4], keep_of G0F (by (intro p hp; have hpb := hT.ok.big p hp; first | rfl | (simp (disch := omega) only [addB, upd_other, hpL_cons, hpL_nil, if_neg, updL, List.cons_append, List.nil_append] <;> done))) (by (intro k hk; first | exact hLow k hk | (simp (disch := omega) only [hLow, addB, List.mem_cons, List.not_mem_nil, or_false, upd_other, hpL_cons, hpL_nil, if_neg, updL, List.cons_append, List.nil_append] <;> done)))⟩
  · have h2 : ¬ n < 2 := fun h => hz (by
      obtain rfl : n = 1 := by omega
      simp [potZ, sum2, sumN])
    have hm0 : mnO fs n = 0 := hmz.2 hz
    have hPo := epot_zero L ks bm bs hT off n cap off2 cap2 fm fs hm hSb hcap2 g bx tp nr md st hs c r hz
    have hEn := eEnergy_err 30 (by decide) L ks bm bs hT off n cap off2 n cap2 g bx tp nr md st hPo
    rw [if_neg h2, decide_eq_false h2, hm0] at hLe
    generalize kinV fm fs n = T at *
    clear hmz hT0
    unfold cfV spV at hEn hPo
    unfold cfV at hft hgr hKi ⊢
    repeat' (first | apply gwS | simp only [wN, wM, Nat.reduceAdd, Nat.reduceMul] | ((first | refine gwR [5, 19, 13, 11, 9, 20] ?_ | refine gwD [5, 19, 13, 11, 9, 20] ?_); intro Q hQ hP; simp [hC, hY, hA, hS, hne, wk, wi_zero]; (repeat ((first | (refine heapK_L hgr hT.ok (by (intro p hp; have hpb := hT.ok.big p hp; (try dsimp only); simp (disch := omega) only [addB, upd_other, hpL_cons, hpL_nil, if_neg, updL, List.cons_append, List.nil_append]; first | exact hT.mem p hp | exact cL p hp)) ?_) | (refine heapK_L hft hT.ok (by (intro p hp; have hpb := hT.ok.big p hp; (try dsimp only); simp (disch := omega) only [addB, upd_other, hpL_cons, hpL_nil, if_neg, updL, List.cons_append, List.nil_append]; first | exact hT.mem p hp | exact cL p hp)) ?_) | (refine heapK_L hEn hT.ok (by (intro p hp; have hpb := hT.ok.big p hp; (try dsimp only); simp (disch := omega) only [addB, upd_other, hpL_cons, hpL_nil, if_neg, updL, List.cons_append, List.nil_append]; first | exact hT.mem p hp | exact cL p hp)) ?_) | (refine heapK_L hPo hT.ok (by (intro p hp; have hpb := hT.ok.big p hp; (try dsimp only); simp (disch := omega) only [addB, upd_other, hpL_cons, hpL_nil, if_neg, updL, List.cons_append, List.nil_append]; first | exact hT.mem p hp | exact cL p hp)) ?_) | (refine heapK_L hKi hT.ok (by (intro p hp; have hpb := hT.ok.big p hp; (try dsimp only); simp (disch := omega) only [addB, upd_other, hpL_cons, hpL_nil, if_neg, updL, List.cons_append, List.nil_append]; first | exact hT.mem p hp | exact cL p hp)) ?_) | (refine heapK_mv hLe G0F (B := 200) (oneL_ok hSb.fx) (fun k => if k = 100 then ks else k) (fun k hk => if_neg (by omega)) (by simp [ren, renA, renF, ren0]) (by simp) (by simp [hrs, hS, hne, hks]) (by simp [keys]) (by simp [keys]; rfl) ?_)); try simp [hC, hY, hA, hS, hne, wk, wi_zero])); (first | refine hQ _ _ _ _ (by kernel_rfl) ?_ | refine hP _ _ (by kernel_rfl) fun _ => ?_); clear hQ hP Q) | apply gwB | apply gwT | apply gwK | apply gwE | apply gwG | apply gwL | simp only [blockG_exit] | (refine gwC ?_ ?_ <;> (intro hb; first | (cases hb; done) | skip)))
    refine ⟨.inr rfl, by simp [Tryz.results4], keep_of G0F (by (intro p hp; have hpb := hT.ok.big p hp; first | rfl | (simp (disch := omega) only [addB, upd_other, hpL_cons, hpL_nil, if_neg, updL, List.cons_append, List.nil_append] <;> done))) (by (intro k hk; first | exact hLow k hk | (simp (disch := omega) only [hLow, addB, List.mem_cons, List.not_mem_nil, or_false, upd_other, hpL_cons, hpL_nil, if_neg, updL, List.cons_append, List.nil_append] <;> done)))⟩
set_option maxRecDepth 8000 in
set_option maxHeartbeats 4000000 in
theorem EnergyWidth_00 (g bx tp nr md st : Int) (hg : i64 g) (hbx : i64 bx) (htp : i64 tp) (hnr : i64 nr) (hmd : i64 md) (hs : i64 st) : Ret Tryz.prog G0 4 #[cfV (.slice none 0 0) g bx tp nr md, .agg #[.int .i64 st, .slice none 0 0]] (.bool true) := by
  unfold cfV
  refine ret_of G0F Tryz.func4 rfl Tryz.call4 (by simp) (by simp) (by simp [Tryz.ntmps4]) ?_
  intro C hC hC0 hY
  have wk := wakes22_of wakes22_ret
  repeat' (first | apply gwS | simp only [wN, wM, Nat.reduceAdd, Nat.reduceMul] | ((first | refine gwR [] ?_ | refine gwD [] ?_); intro Q hQ hP; simp [hC, hY, wk, great00K, fits00K]; (first | refine hQ _ _ _ _ (by kernel_rfl) ?_ | refine hP _ _ (by kernel_rfl) fun _ => ?_); clear hQ hP Q) | apply gwB | apply gwT | apply gwK | apply gwE | apply gwG | apply gwL | simp only [blockG_exit] | (refine gwC ?_ ?_ <;> (intro hb; first | (cases hb; done) | skip)))
  refine ⟨.inr trivial, ?_⟩
  simp [Tryz.results4]
set_option maxRecDepth 8000 in
set_option maxHeartbeats 4000000 in
theorem EnergyWidth_0s (b : Blk) (off n cap : Nat) (f : Nat → Int) (h : SB b off n f) (hcap : n ≤ cap) (g bx tp nr md st : Int) (hg : i64 g) (hbx : i64 bx) (htp : i64 tp) (hnr : i64 nr) (hmd : i64 md) (hs : i64 st) :
    Fun Tryz.prog G0 4 #[cfV (.slice none 0 0) g bx tp nr md, .agg #[.int .i64 st, .slice (some ⟨100, off, none⟩) n cap]] (hpL G0 [(100, b)]) (keys [(100, b)]) (.ret (.bool true) []) := by
  refine fun_ofL (B := 200) G0F Tryz.func4 rfl Tryz.call4 (oneL_ok h.fx) ?_ (by simp) (by simp) (by simp) (by simp [Tryz.ntmps4]) (by omega) ?_
  · simp [idsV, idsA, idsF, ids0, keys, cfV]
  intro C hC hC0 hY
  have wk := wakes22_of wakes22_ret
  have hr := fun ρ => Blk.fx_rn h.fx ρ
  have hgr := great_0s b off n cap f h g bx tp nr md st
  have hft := fits_0s b off n cap f h g bx tp nr md st
  unfold cfV
  cases hq : decide (9 < n) with
  | true =>
    rw [hq] at hgr
    repeat' (first | apply gwS | simp only [wN, wM, Nat.reduceAdd, Nat.reduceMul] | ((first | refine gwR [5, 19] ?_ | refine gwD [5, 19] ?_); intro Q hQ hP; simp [hC, hY, wk]; (repeat ((first | (refine heapK_mv hgr G0F (B := 200) (oneL_ok h.fx) (fun k => k) (fun k hk => rfl) (by simp [ren, renA, renF, ren0, cfV]) (by simp) (by simp [hr]) (by simp [keys]) (by simp [keys]; rfl) ?_) | (refine heapK_mv hft G0F (B := 200) (oneL_ok h.fx) (fun k => k) (fun k hk => rfl) (by simp [ren, renA, renF, ren0, cfV]) (by simp) (by simp [hr]) (by simp [keys]) (by simp [keys]; rfl) ?_)); try simp [hC, hY, wk])); (first | refine hQ _ _ _ _ (by kernel_rfl) ?_ | refine hP _ _ (by kernel_rfl) fun _ => ?_); clear hQ hP Q) | apply gwB | apply gwT | apply gwK | apply gwE | apply gwG | apply gwL | simp only [blockG_exit] | (refine gwC ?_ ?_ <;> (intro hb; first | (cases hb; done) | skip)))
    refine ⟨.inr rfl, by simp [Tryz.results4], keep_of G0F (by simp) (by (intro k hk; first | rfl | (simp (disch := omega) only [addB, List.mem_cons, List.not_mem_nil, or_false, upd_other, hpL_cons, hpL_nil, if_neg, updL] <;> done)))⟩
  | false =>
    rw [hq] at hgr
    repeat' (first | apply gwS | simp only [wN, wM, Nat.reduceAdd, Nat.reduceMul] | ((first | refine gwR [5, 19] ?_ | refine gwD [5, 19] ?_); intro Q hQ hP; simp [hC, hY, wk]; (repeat ((first | (refine heapK_mv hgr G0F (B := 200) (oneL_ok h.fx) (fun k => k) (fun k hk => rfl) (by simp [ren, renA, renF, ren0, cfV]) (by simp) (by simp [hr]) (by simp [keys]) (by simp [keys]; rfl) ?_) | (refine heapK_mv hft G0F (B := 200) (oneL_ok h.fx) (fun k => k) (fun k hk => rfl) (by simp [ren, renA, renF, ren0, cfV]) (by simp) (by simp [hr]) (by simp [keys]) (by simp [keys]; rfl) ?_)); try simp [hC, hY, wk])); (first | refine hQ _ _ _ _ (by kernel_rfl) ?_ | refine hP _ _ (by kernel_rfl) fun _ => ?_); clear hQ hP Q) | apply gwB | apply gwT | apply gwK | apply gwE | apply gwG | apply gwL | simp only [blockG_exit] | (refine gwC ?_ ?_ <;> (intro hb; first | (cases hb; done) | skip)))
    refine ⟨.inr rfl, by simp [Tryz.results4], keep_of G0F (by simp) (by (intro k hk; first | rfl | (simp (disch := omega) only [addB, List.mem_cons, List.not_mem_nil, or_false, upd_other, hpL_cons, hpL_nil, if_neg, updL] <;> done)))⟩
set_option maxRecDepth 8000 in
set_option maxHeartbeats 4000000 in
theorem EnergyWidth_s0 (b : Blk) (off n cap : Nat) (f : Nat → Int) (h : MB b off n f) (hcap : n ≤ cap) (g bx tp nr md st : Int) (hg : i64 g) (hbx : i64 bx) (htp : i64 tp) (hnr : i64 nr) (hmd : i64 md) (hs : i64 st) :
    Fun Tryz.prog G0 4 #[cfV (.slice (some ⟨100, off, none⟩) n cap) g bx tp nr md, .agg #[.int .i64 st, .slice none 0 0]] (hpL G0 [(100, b)]) (keys [(100, b)]) (.ret (.bool true) []) := by
  refine fun_ofL (B := 200) G0F Tryz.func4 rfl Tryz.call4 (oneL_ok h.fx) ?_ (by simp) (by simp) (by simp) (by simp [Tryz.ntmps4]) (by omega) ?_
  · simp [idsV, idsA, idsF, ids0, keys, cfV]
  intro C hC hC0 hY
  have wk := wakes22_of wakes22_ret
  have hr := fun ρ => Blk.fx_rn h.fx ρ
  have hgr := great_s0 b off n cap f h g bx tp nr md st
  have hft := fits_s0 b off n cap f h g bx tp nr md st
  unfold cfV
  cases hq : decide (9 < n) with
  | true =>
    rw [hq] at hgr
    repeat' (first | apply gwS | simp only [wN, wM, Nat.reduceAdd, Nat.reduceMul] | ((first | refine gwR [5, 19] ?_ | refine gwD [5, 19] ?_); intro Q hQ hP; simp [hC, hY, wk]; (repeat ((first | (refine heapK_mv hgr G0F (B := 200) (oneL_ok h.fx) (fun k => k) (fun k hk => rfl) (by simp [ren, renA, renF, ren0, cfV]) (by simp) (by simp [hr]) (by simp [keys]) (by simp [keys]; rfl) ?_) | (refine heapK_mv hft G0F (B := 200) (oneL_ok h.fx) (fun k => k) (fun k hk => rfl) (by simp [ren, renA, renF, ren0, cfV]) (by simp) (by simp [hr]) (by simp [keys]) (by simp [keys]; rfl) ?_)); try simp [hC, hY, wk])); (first | refine hQ _ _ _ _ (by kernel_rfl) ?_ | refine hP _ _ (by kernel_rfl) fun _ => ?_); clear hQ hP Q) | apply gwB | apply gwT | apply gwK | apply gwE | apply gwG | apply gwL | simp only [blockG_exit] | (refine gwC ?_ ?_ <;> (intro hb; first | (cases hb; done) | skip)))
    refine ⟨.inr rfl, by simp [Tryz.results4], keep_of G0F (by simp) (by (intro k hk; first | rfl | (simp (disch := omega) only [addB, List.mem_cons, List.not_mem_nil, or_false, upd_other, hpL_cons, hpL_nil, if_neg, updL] <;> done)))⟩
  | false =>
    rw [hq] at hgr
    repeat' (first | apply gwS | simp only [wN, wM, Nat.reduceAdd, Nat.reduceMul] | ((first | refine gwR [5, 19] ?_ | refine gwD [5, 19] ?_); intro Q hQ hP; simp [hC, hY, wk]; (repeat ((first | (refine heapK_mv hgr G0F (B := 200) (oneL_ok h.fx) (fun k => k) (fun k hk => rfl) (by simp [ren, renA, renF, ren0, cfV]) (by simp) (by simp [hr]) (by simp [keys]) (by simp [keys]; rfl) ?_) | (refine heapK_mv hft G0F (B := 200) (oneL_ok h.fx) (fun k => k) (fun k hk => rfl) (by simp [ren, renA, renF, ren0, cfV]) (by simp) (by simp [hr]) (by simp [keys]) (by simp [keys]; rfl) ?_)); try simp [hC, hY, wk])); (first | refine hQ _ _ _ _ (by kernel_rfl) ?_ | refine hP _ _ (by kernel_rfl) fun _ => ?_); clear hQ hP Q) | apply gwB | apply gwT | apply gwK | apply gwE | apply gwG | apply gwL | simp only [blockG_exit] | (refine gwC ?_ ?_ <;> (intro hb; first | (cases hb; done) | skip)))
    refine ⟨.inr rfl, by simp [Tryz.results4], keep_of G0F (by simp) (by (intro k hk; first | rfl | (simp (disch := omega) only [addB, List.mem_cons, List.not_mem_nil, or_false, upd_other, hpL_cons, hpL_nil, if_neg, updL] <;> done)))⟩
theorem EnergyWidth_fun (L : List (Nat × Blk)) (ks : Nat) (bm bs : Blk) (hT : LTwo G0 L ks bm bs) (off n cap : Nat) (fm : Nat → Int) (hm : MB bm off n fm) (hcap : n ≤ cap) (off2 n2 cap2 : Nat) (fs : Nat → Int) (hSb : SB bs off2 n2 fs) (hcap2 : n2 ≤ cap2) (g bx tp nr md st : Int) (hg : i64 g) (hbx : i64 bx) (htp : i64 tp) (hnr : i64 nr) (hmd : i64 md) (hs : i64 st) :
    Fun Tryz.prog G0 4 #[cfV (.slice (some ⟨100, off, none⟩) n cap) g bx tp nr md, .agg #[.int .i64 st, .slice (some ⟨ks, off2, none⟩) n2 cap2]] (hpL G0 L) (keys L) (.ret (.bool true) []) := by
  cases hf : fitB n n2 (cfOk n fm g bx tp nr md) (rightB st fs n2) with
  | false => exact EnergyWidth_bad L ks bm bs hT off n cap fm hm hcap off2 n2 cap2 fs hSb hcap2 g bx tp nr md st hg hbx htp hnr hmd hs hf
  | true => exact EnergyWidth_fit L ks bm bs hT off n cap fm hm hcap off2 n2 cap2 fs hSb hcap2 g bx tp nr md st hg hbx htp hnr hmd hs hf
end Go.Gy
namespace Go.Gy
set_option linter.unusedSimpArgs false
set_option linter.unusedVariables false
set_option maxRecDepth 100000
open Go Go.RowKit Go.Proofs Go.ChangeShapes Go.WideShapes Go.ChangeAt

section
variable {H : Type} {enc : TypeId × Value → H} {P : Program}
theorem post_of_below {f : Func} {s : ChangeSpec} {apart fresh handsOn again : Bool} {W W' : World} {args : Array Value} {v : Value} {ds gs : List (DataW H)} {before pa pv : List MemPlace}
    (hW : DataW.Whole enc P f.params.toList s.vars apart W args.toList ds gs before)
    (hres : ∀ (b : Nat) (sp : Nat → Bool) (hd : Bool), DataW.TrodAll enc P W' b sp hd f.resultTypes.toList (v.resultList f.resultTypes.size) (s.fn H (ds ++ gs)).results [])
    (hargs : ∀ sp : Nat → Bool, (∀ p ∈ before, sp p.block = true) → DataW.TrodAll enc P W' 0 sp true f.params.toList args.toList (s.fn H (ds ++ gs)).args pa)
    (hvars : ∀ sp : Nat → Bool, (∀ p ∈ before, sp p.block = true) → DataW.TrodVars enc P W' sp s.vars (s.fn H (ds ++ gs)).vars pv)
    (hps : before = pa ++ pv) (hb : Below W.heap.size W W')
    (hok : ∀ (j : Nat) (t : TypeId) (r : Value), f.resultTypes[j]? = some t → (v.resultList f.resultTypes.size)[j]? = some r → Value.okWide P W' .any 0 t r) :
    s.post enc P f apart fresh handsOn again W args v W' := by
  have hlt : ∀ p ∈ before, p.block < W.heap.size := fun p hp => hW.lt p hp
  have hold : ∀ p ∈ before, (fun b => decide (b < W.heap.size)) p.block = true := fun p hp => by simpa using hlt p hp
  refine ⟨ds, gs, before, [], pa, pv, hW, hres _ _ _, hargs _ hold, hvars _ hold, World.keptBut_mono (fun p hp => ⟨hp, ?_⟩) (hb.frame (· ∈ before)), fun _ => ?_⟩
  · rw [hps, List.mem_append] at hp
    exact Or.inr hp
  · obtain ⟨_, _, _, _, _, hz, hn⟩ := hW
    refine ⟨hok, _, _, ([] ++ pa) ++ pv, ⟨[] ++ pa, pv, trodAll_append (hargs _ (fun _ _ => rfl)) (hres _ _ _), hvars _ (fun _ _ => rfl), rfl, ?_, ?_⟩, ?_⟩
    · intro b off hp
      have hin : MemPlace.cell b off ∈ before := by rw [hps]; simpa using hp
      rw [hb.frozen (hlt _ hin)]
      exact hz b off hin
    · intro ha
      have := hn ha
      rw [hps] at this
      simpa using this
    · intro p hp _
      rw [hps]
      simpa using hp
end

theorem cells_u64 : Tryz.prog.cellsOf 28 = 1 := by kernel_rfl
theorem cells_wide : Tryz.prog.cellsOf 30 = 4 := by kernel_rfl
theorem mm_i64 : IntKind.i64.min = -9223372036854775808 ∧ IntKind.i64.max = 9223372036854775807 := by decide
theorem wf_i64 {z : Int} (h : (Lit.int .i64 z).wf = true) : i64 z := by
  simp only [Lit.wf, Bool.and_eq_true, decide_eq_true_eq, mm_i64.1, mm_i64.2] at h; unfold i64; omega
section
variable {H : Type} {enc : TypeId × Value → H} {w : World}
end

theorem own : ownKnob Tryz.prog.godebug = none := by kernel_rfl
theorem heap_of_var {P : Program} {W : World} {name : String} {g : Nat} {cs : Array Value} {z : Array Value} {T : TypeId} (hg : P.globalNamed name = some g) (hlt : g < P.globals.size) (hrow : ((begin P (fun _ _ => 0) default).world.heap[g]?).bind Obj.row? = some (z, T))
    (hS : W.ShapedOpen P) (hv : W.var? P name = some cs) : W.heap[g]? = some (.cells cs T (0, 0)) := by
  obtain ⟨c, h1, _⟩ := hS.1 g z T hlt hrow
  unfold World.var? at hv
  rw [hg] at hv
  simp only [Option.bind_some, h1, Option.some.injEq] at hv
  rw [h1, hv]
theorem gLeast : Tryz.prog.globalNamed "gyre/quot.least" = some 1 := by kernel_rfl
theorem gLeastType : (Tryz.prog.globals[1]?).map (·.type) = some 30 := by kernel_rfl
theorem gLeastRow : ((begin Tryz.prog (fun _ _ => 0) default).world.heap[1]?).bind Obj.row? = some (#[.int .u64 0, .int .u64 0, .int .u64 0, .int .u64 0], 30) := by kernel_rfl
theorem least_of {W : World} {rest : List (String × DataW Unit)} (h : laidMet Tryz.prog (("gyre/quot.least", Proofs.YtfedlkjhfnlnbaaGreatDoor.Rows.laid_gyre_quot_least) :: rest) W) : W.var? Tryz.prog "gyre/quot.least" = some lsB.c :=
  Lib.tabIs_of_head (zs := [0, 0, 0, 9223372036854775808]) gLeast gLeastType Tryz.underlying30 Tryz.underlying28 cells_u64 cells_wide h
theorem cells_of_strs {H : Type} {enc : TypeId × Value → H} {P : Program} {w : World} {base : Nat} {sp : Nat → Bool} {held : Bool} {fuel : Nat} {t e : TypeId} {n : Nat} {cs : List Value} {ss : List (List UInt8)} {p : List MemPlace}
    (ht : P.underlying t = some (.array n e)) (he : P.underlying e = some .string) (hce : P.cellsOf e = 1) (hct : P.cellsOf t = n)
    (h : DataW.trod enc P w base sp held fuel t cs = some (.agg (ss.map fun s => .lit (.string s)), p)) : cs = ss.map fun s => Value.string ⟨s.toArray⟩ := by
  cases fuel with
  | zero => simp [DataW.trod] at h
  | succ fuel =>
    simp only [DataW.trod, ht, hce, hct, Nat.mul_one] at h
    split at h
    · rename_i hl
      obtain ⟨xs, hm, hx⟩ := Option.map_eq_some_iff.1 h
      have hxs : xs.map (·.1) = ss.map fun s => (DataW.lit (.string s) : DataW H) := by
        have := congrArg Prod.fst hx
        simpa using this
      have hxl : xs.length = n := by simpa using Lib.mapM_length hm
      have hzl : ss.length = n := by
        have := congrArg List.length hxs
        simp at this
        omega
      apply List.ext_getElem?
      intro i
      by_cases hi : i < n
      · obtain ⟨b, hb, hf⟩ := Lib.mapM_at hm i i (by simp [hi])
        obtain ⟨s, hc, rfl, _⟩ := DataW.trod_string he hf
        have h1 : cs[i]? = some (.string s) := by
          have := congrArg (·[0]?) hc
          simpa [List.getElem?_take, List.getElem?_drop] using this
        have h2 : (xs.map (·.1))[i]? = some (DataW.lit (.string s.data.toList) : DataW H) := by simp [hb]
        rw [hxs] at h2
        simp only [List.getElem?_map, Option.map_eq_some_iff, DataW.lit.injEq, Lit.string.injEq] at h2
        obtain ⟨z', hz', rfl⟩ := h2
        simp [h1, hz']
      · rw [List.getElem?_eq_none (by omega), List.getElem?_eq_none (by simp; omega)]
    · cases h
theorem gNames : Tryz.prog.globalNamed "gyre/conf.names" = some 0 := by kernel_rfl
theorem gNamesType : (Tryz.prog.globals[0]?).map (·.type) = some 123 := by kernel_rfl
theorem cells_str : Tryz.prog.cellsOf 9 = 1 := by kernel_rfl
theorem cells_names : Tryz.prog.cellsOf 123 = 7 := by kernel_rfl
theorem gNamesRow : ((begin Tryz.prog (fun _ _ => 0) default).world.heap[0]?).bind Obj.row? = some (#[.string ⟨#[]⟩, .string ⟨#[]⟩, .string ⟨#[]⟩, .string ⟨#[]⟩, .string ⟨#[]⟩, .string ⟨#[]⟩, .string ⟨#[]⟩], 123) := by kernel_rfl
theorem names_of {W : World} {rest : List (String × DataW Unit)} (h : laidMet Tryz.prog (("gyre/conf.names", Proofs.YtfedlkjhfnlnbaaGreatDoor.Rows.laid_gyre_conf_names) :: rest) W) : W.var? Tryz.prog "gyre/conf.names" = some cnB.c := by
  obtain ⟨ps, ⟨g', t', cs, fuel, p, q, hg', ht', hvar, hd, _, _⟩, _⟩ := h
  obtain rfl := Option.some.inj (gNames.symm.trans hg')
  obtain rfl := Option.some.inj (gNamesType.symm.trans ht')
  have h9 := cells_of_strs (ss := [[98, 111, 100, 105, 101, 115], [109, 97, 115, 115], [99, 111, 110, 115, 116, 97, 110, 116], [98, 111, 120], [116, 111, 112], [110, 101, 97, 114], [109, 101, 116, 104, 111, 100]]) Tryz.underlying123 Tryz.underlying9 cells_str cells_names hd
  rw [hvar]
  congr 1
  exact Array.ext' h9
theorem gok_both {W : World} (hS : W.ShapedOpen Tryz.prog) (h : laidMet Tryz.prog [("gyre/conf.names", Proofs.YtfedlkjhfnlnbaaGreatDoor.Rows.laid_gyre_conf_names), ("gyre/quot.least", Proofs.YtfedlkjhfnlnbaaGreatDoor.Rows.laid_gyre_quot_least)] W) : GOK G0 W := fun k b hk => by
  have h9 := G0_mem hk
  simp [G0L] at h9
  rcases h9 with ⟨rfl, rfl⟩ | ⟨rfl, rfl⟩
  · exact heap_of_var gLeast (of_decide_eq_true (by kernel_rfl)) gLeastRow hS (least_of (laidMet.tail h))
  · exact heap_of_var gNames (of_decide_eq_true (by kernel_rfl)) gNamesRow hS (names_of h)
end Go.Gy
