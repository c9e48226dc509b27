/-
  Lemmas of this claim, in their order (GyEU, GyEV, GyFD, GyFG, GyFC, GyCG, GyFE, GyFJ, GyFK, GyFN, GyFA, GyFO, GyFM, GyFP, GyEW, GyEX, GyFQ).
  Conditions: those of each theorem.
-/
import Derived.Test.YtfedlkjhfnlnbaaGreatDoorGz06
namespace Go.Gy
set_option linter.unusedSimpArgs false
set_option linter.unusedVariables false
open Go Go.RowKit Go.Proofs
def potE (n n2 : Nat) (okc rt : Bool) (fs : Nat → Int) : Int := if fitB n n2 okc rt = true then (if potZ fs n2 = 0 then 0 else 30) else 2
def potL (n n2 : Nat) (okc rt : Bool) (g : Int) (fm fs : Nat → Int) : Int := if potE n n2 okc rt fs = 0 then potLo g fm fs n2 else 0
def potH (n n2 : Nat) (okc rt : Bool) (g : Int) (fm fs : Nat → Int) : Int := if potE n n2 okc rt fs = 0 then potHi g fm fs n2 else 0
set_option maxRecDepth 8000 in
set_option maxHeartbeats 4000000 in
theorem epot_bad (L : List (Nat × Blk)) (ks : Nat) (bm bs : Blk) (hT : LTwo G0 L ks bm bs) (off n cap off2 n2 cap2 : Nat) (fm fs : Nat → Int) (hm : MB bm off n fm) (hSb : SB bs off2 n2 fs) (g bx tp nr md st : Int) (hs : i64 st)
  (hf : fitB n n2 (cfOk n fm g bx tp nr md) (rightB st fs n2) = false) :
  Fun Tryz.prog G0 11 #[cfV (.slice (some ⟨100, off, none⟩) n cap) g bx tp nr md, .agg #[.int .i64 st, .slice (some ⟨ks, off2, none⟩) n2 cap2]] (hpL G0 L) (keys L) (.ret (.tuple #[spV 0 0, .int .i64 2]) []) := by
 refine fun_ofL (B := 200) G0F Tryz.func11 rfl Tryz.call11 hT.ok ?_ (flatV_ids (by simp [spV])) (by simp) (by simp) (by simp [Tryz.ntmps11]) (by omega) ?_
 ·simp [idsV, idsA, idsF, ids0, hT.ia, hT.ib, cfV]
 intro C hC hC0 hY
 have hA := hT.a
 have hS := hT.s
 have hne := hT.ne
 have hLow := hT.low
 have hks := hT.k1
 have hks2 := hT.k2
 have hfit := kFits_L L ks bm bs hT off n cap off2 n2 cap2 fm fs hm hSb g bx tp nr md st hs
 rw [hf] at hfit
 unfold cfV at hfit ⊢
 repeat' (first | refine gwA ?_ | ((first | refine gwR [34] ?_ | refine gwD [34] ?_); intro Q hQ hP; simp [hC, hY, hA, hS, hne, wi_zero]; (repeat ((first | (refine heapK_L hfit hT.ok aMem ?_)); try simp [hC, hY, hA, hS, hne, wi_zero])); refine hQ _ _ _ _ (by kernel_rfl) ?_; clear hQ hP Q) | (refine gwC ?_ ?_ <;> (intro hb; first | (cases hb; done) | skip)))
 refine ⟨.inr rfl, by simp [Tryz.results11, wi_zero, spV], kpT G0F⟩
def ezB (cq : Array Value) : Blk := ⟨cq, .raw 24 (0, 0)⟩
theorem ezB_rn {cq : Array Value} {ρ : Nat → Nat} : (ezB cq).rn ρ = ezB cq := rfl
theorem ezB_ids {cq : Array Value} {D : Nat → Prop} : (ezB cq).ids D := trivial
theorem ez_ld {cq : Array Value} {g : Int} (h1 : cq[1]? = some (.int .i64 g)) : loadK Tryz.prog 3 ⟨cq, .raw 24 (0, 0)⟩ 1 = some (.int .i64 g) := by
 unfold loadK
 simp [h1, flatV, flatF, flat0]
def spB (lo hi : Int) : Blk := ⟨#[.int .u64 (wi lo 0), .int .u64 (wi lo 1), .int .u64 (wi lo 2), .int .u64 (wi lo 3), .int .u64 (wi hi 0), .int .u64 (wi hi 1), .int .u64 (wi hi 2), .int .u64 (wi hi 3)], .ty 32⟩
def epTs : List (Nat × Value) := [(2, .pointer (some ⟨200, 0, none⟩)), (4, .pointer (some ⟨216, 0, none⟩)), (5, .pointer (some ⟨224, 0, none⟩))]
def epM (cq : Array Value) (lo hi : Int) : List (Nat × Blk) := [(200, ezB cq), (216, spB lo hi), (224, ⟨#[.int .i64 0], .ty 35⟩)]
def epI (cq : Array Value) (F H : Nat → Nat → Int) (l : List (Nat × Nat)) (j : Nat) (h : Hp) : Prop := h = hpL G0 (epM cq (pS F (l.take j)) (pS H (l.take j)))
def epr (k : Nat) : Nat := if k = 200 then 280 else if k = 208 then 281 else k
theorem eIn {asd : List Nat} {f g : Hp} {k : Nat} (h : k ∈ asd) : addB asd f g k = f k := if_pos h
theorem eNi {asd : List Nat} {f g : Hp} {k : Nat} (h : k ∉ asd) : addB asd f g k = g k := if_neg h
theorem eOut {G : Hp} : ∀ {L : List (Nat × Blk)} {k : Nat}, k ∉ keys L → hpL G L k = G k
 | [], _, _ => rfl
 | (q, c) :: L, k, h => by
  simp only [keys, List.map_cons, List.mem_cons, not_or] at h
  rw [hpL_cons, if_neg h.1]
  exact eOut h.2
theorem eAsd {L : List (Nat × Blk)} (hL : LOk L 200) : (fun k => if k ∈ 280 :: 281 :: keys L then none else hpL G0 L k) = hpL G0 [] := by
 funext k
 simp only [hpL_nil]
 split
 ·rename_i hm
  rcases List.mem_cons.1 hm with rfl | hm
  ·exact (G0_big _ (by omega)).symm
  ·rcases List.mem_cons.1 hm with rfl | hm
   ·exact (G0_big _ (by omega)).symm
   ·obtain ⟨p, hp, rfl⟩ := mem_keys.1 hm
    exact (G0_big _ (hL.big p hp).1).symm
 ·rename_i hm
  exact eOut fun h => hm (List.mem_cons_of_mem _ (List.mem_cons_of_mem _ h))
theorem epr_id {k : Nat} (h : k < 200) : epr k = k := by unfold epr; rw [if_neg (by omega), if_neg (by omega)]
set_option maxRecDepth 8000 in
set_option maxHeartbeats 4000000 in
theorem epot_fit (L : List (Nat × Blk)) (ks : Nat) (bm bs : Blk) (hT : LTwo G0 L ks bm bs) (off n cap off2 cap2 : Nat) (fm fs : Nat → Int) (hm : MB bm off n fm) (hSb : SB bs off2 n fs) (hcap2 : n ≤ cap2) (g bx tp nr md st : Int) (hs : i64 st)
  (hok : cfOk n fm g bx tp nr md = true) (hrt : rightB st fs n = true) (hz : potZ fs n = 0) :
  Fun Tryz.prog G0 11 #[cfV (.slice (some ⟨100, off, none⟩) n cap) g bx tp nr md, .agg #[.int .i64 st, .slice (some ⟨ks, off2, none⟩) n cap2]] (hpL G0 L) (keys L) (.ret (.tuple #[spV (potLo g fm fs n) (potHi g fm fs n), .int .i64 0]) []) := by
 refine fun_ofL (B := 200) G0F Tryz.func11 rfl Tryz.call11 hT.ok ?_ (flatV_ids (by simp [spV])) (by simp) (by simp) (by simp [Tryz.ntmps11]) (by omega) ?_
 ·simp [idsV, idsA, idsF, ids0, hT.ia, hT.ib, cfV]
 intro C hC hC0 hY
 have hA := hT.a
 have hS := hT.s
 have hne := hT.ne
 have hLow := hT.low
 have hks := hT.k1
 have hks2 := hT.k2
 have hfit := kFits_L L ks bm bs hT off n cap off2 n cap2 fm fs hm hSb g bx tp nr md st hs
 rw [fitB_iff.2 ⟨rfl, hok, hrt⟩] at hfit
 have hn4 := (right_n hrt).2.1
 have hpr := epairs_at 280 (by omega) L ks bm bs hT off n cap off2 n cap2 g bx tp nr md st
 unfold cfV at hfit hpr ⊢
 repeat' (first | refine gwA ?_ | ((first | refine gwR [34] ?_ | refine gwD [34] ?_); intro Q hQ hP; simp [hC, hY, hA, hS, hne, wi_zero]; (repeat ((first | (refine heapK_L hfit hT.ok aMem ?_)); try simp [hC, hY, hA, hS, hne, wi_zero])); refine hQ _ _ _ _ (by kernel_rfl) ?_; clear hQ hP Q) | (refine gwC ?_ ?_ <;> (intro hb; first | (cases hb; done) | skip)))
 refine GW_list ?_
 simp only [Array.toList]
 refine GL_walk 2 [] rfl (by simp) (by kernel_rfl) ?_; intro q hq; simp [hC, hY, hA, hS, hne]; refine hq _ _ _ _ ?_; clear hq q
 simp only [wT, List.length_cons, List.length_nil, Nat.reduceAdd]
 refine GL_callL (f := .func 37) (cap := #[]) hC hpr rfl (by simp) rfl rfl (by simp [okT]) (by simp [gev]) (by simp) (by simp [okX, junk]) (by simp [gev]) (by intro q hq; obtain ⟨p, hp, rfl⟩ := mem_keys.1 hq; have hpb := hT.ok.big p hp; (try dsimp only); simp (disch := omega) only [upd_other]) (by (intro k hk; first | exact hLow k hk | (simp (disch := omega) only [hLow, addB, List.mem_cons, List.not_mem_nil, or_false, upd_other, hpL_cons, hpL_nil, if_neg, updL, List.cons_append, List.nil_append] <;> done))) (fun v ns hV k hk => by have := epairsR_key hV k hk; simp; omega) ?_
 rintro v ns ⟨rfl, rfl⟩
 refine GL_nil ?_
 repeat' (first | refine gwA ?_ | ((first | refine gwR [] ?_ | refine gwD [] ?_); intro Q hQ hP; simp [hC, hY, putT, updL, hA, hS, hne]; refine hQ _ _ _ _ (by kernel_rfl) ?_; clear hQ hP Q) | (refine gwC ?_ ?_ <;> (intro hb; first | (cases hb; done) | skip)))
 simp only [putT, updL]
 refine GW_freeze 200 (t := 24) (cs := #[.slice (some ⟨100, off, none⟩) n cap, .int .i64 g, .int .i64 bx, .int .i64 tp, .int .i64 nr, .int .i64 md]) (by simp [cfB]) (by omega) ?_
 intro cq hq1 hq2
 have hq4 : cq[1]? = some (.int .i64 g) := hq2 1 _ rfl rfl
 have hq6 : cq.size = 6 := hq1
 have hidL : ∀ k ∈ keys L, epr k = k := fun k hk => by
  obtain ⟨p, hp, rfl⟩ := mem_keys.1 hk
  exact epr_id (hT.ok.big p hp).2
 have hout : ∀ k, 200 ≤ k → k ≠ 280 → k ≠ 281 → (k ∈ 280 :: 281 :: keys L) = False := fun k h1 h2 h3 => eq_false fun hm => by
  rcases List.mem_cons.1 hm with e | hm
  ·exact h2 e
  ·rcases List.mem_cons.1 hm with e | hm
   ·exact h3 e
   ·obtain ⟨p, hp, rfl⟩ := mem_keys.1 hm
    have := (hT.ok.big p hp).2
    omega
 have hasd : ∀ C0 : Ctx, (C0.hp0 = fun k => if k ∈ 280 :: 281 :: keys L then none else C.hp0 k) → C0.hp0 = hpL G0 [] := fun C0 h0 => by
  rw [h0, hC0]
  exact eAsd hT.ok
 refine GW_rangeK (f := 70) (rs := 280 :: 281 :: keys L) (xs := (epIx n).map fun p => epV fm fs p.1 p.2) (caps := #[.pointer (some ⟨281, 0, none⟩), .pointer (some ⟨280, 0, none⟩)]) (280 :: 281 :: keys L) hY (by simp) ?_ ?_ (by simp [Tryz.ntmps11]) (tsL epTs) (tsL epTs) (epI cq (fun i k => enLo g (fm i) (fm k) (esqF fs i k)) (fun i k => enHi g (fm i) (fm k) (esqF fs i k)) (epIx n)) (hpS := hpL G0 (epM cq 0 0)) 300 (epIx n).length (by simp) (fun k hk => hk) ?_ ?_ ?_ ?_ ?_ (fun _ => .inl rfl) ?_ ?_
 ·rw [hC]
  refine iterk_mv (epairs_it L ks bm bs hT off n cap off2 cap2 fm fs hm hSb hcap2 hn4 g bx tp nr md st) G0F (enM_ok hT off n cap off2 n cap2 g bx tp nr md st) epr (fun k hk => epr_id (by omega)) (by simp [ren0, epr]) ?_ (by (intro k hk; first | exact hLow k hk | (simp (disch := omega) only [hLow, addB, List.mem_cons, List.not_mem_nil, or_false, upd_other, hpL_cons, hpL_nil, if_neg, updL, List.cons_append, List.nil_append] <;> done))) ?_ ?_
  ·show epr 200 :: epr 208 :: (keys L).map epr = _
   rw [List.map_congr_left hidL]
   simp [epr]
  ·intro p hp
   rcases List.mem_cons.1 hp with rfl | hp
   ·simp [epr, cfB, Blk.rn, renF, ren0, upd]
   ·rcases List.mem_cons.1 hp with rfl | hp
    ·have h3 : epr ks = ks := epr_id hks2
     simp [stB', Blk.rn, renF, ren0, upd, h3]
     simp [epr, upd]
    ·have hpb := hT.ok.big p hp
     rw [epr_id hpb.2, Blk.fx_rn (hT.fx p hp)]
     refine ⟨hpb.1, ?_⟩
     (try dsimp only)
     simp (disch := omega) only [addB, upd_other, hpL_cons, hpL_nil, if_neg, updL]
     exact hT.mem p hp
  ·have key : ∀ k ∈ keys (enM L ks off n cap off2 n cap2 g bx tp nr md st), (k = 200 ∧ epr k = 280) ∨ (k = 208 ∧ epr k = 281) ∨ (k < 200 ∧ epr k = k) := fun k hk => by
    rcases List.mem_cons.1 hk with rfl | hk
    ·exact .inl ⟨rfl, rfl⟩
    ·rcases List.mem_cons.1 hk with rfl | hk
     ·exact .inr (.inl ⟨rfl, rfl⟩)
     ·obtain ⟨p, hp, rfl⟩ := mem_keys.1 hk
      have := (hT.ok.big p hp).2
      exact .inr (.inr ⟨this, epr_id this⟩)
   intro k hk l hl e
   have := key k hk
   have := key l hl
   omega
 ·intro x hx
  simp only [List.mem_map] at hx
  obtain ⟨p, _, rfl⟩ := hx
  simp [epV]
 ·intro k hk
  rcases List.mem_cons.1 hk with rfl | hk
  ·simp [dom, upd]
  ·rcases List.mem_cons.1 hk with rfl | hk
   ·simp [dom, upd]
   ·obtain ⟨p, hp, rfl⟩ := mem_keys.1 hk
    have hpb := hT.ok.big p hp
    refine ⟨hpb.1, ?_⟩
    unfold dom
    dsimp only
    simp (disch := omega) only [addB, upd_other, hpL_cons, hpL_nil, if_neg, updL]
    rw [hT.mem p hp]
    simp
 ·intro k hk b hb1
  rcases List.mem_cons.1 hk with rfl | hk
  ·simp [upd] at hb1; subst hb1; simp [cfB, ids_lit, idsF, ids0, hT.ia]
  ·rcases List.mem_cons.1 hk with rfl | hk
   ·simp [upd] at hb1; subst hb1; simp [stB', ids_lit, idsF, ids0, hT.ib]
   ·obtain ⟨p, hp, rfl⟩ := mem_keys.1 hk
    have hpb := hT.ok.big p hp
    dsimp only at hb1
    simp (disch := omega) only [addB, upd_other, hpL_cons, hpL_nil, if_neg, updL] at hb1
    rw [hT.mem p hp] at hb1
    simp only [Option.some.injEq] at hb1
    subst hb1
    exact Blk.fx_ids (hT.fx p hp) _
 ·intro C0 h1 h2
  refine weakL _ 300 (h1.trans hC) G0F (m0 := []) (hasd C0 h2) (by omega) ?_ ?_ ?_
  ·simp [epTs, epM, idsV, idsA, idsF, ids0, dom]
  ·simp [epM, ezB_ids, spB, ids_lit, idsF, ids0, dom, upd, wi_zero]
   rfl
  ·simp
 ·simp [epI, pS]
 ·intro k hk
  have h3 : k = 280 ∨ k = 281 ∨ (100 ≤ k ∧ k < 200) := by
   rcases List.mem_cons.1 hk with rfl | hk
   ·exact .inl rfl
   ·rcases List.mem_cons.1 hk with rfl | hk
    ·exact .inr (.inl rfl)
    ·obtain ⟨p, hp, rfl⟩ := mem_keys.1 hk
     exact .inr (.inr (hT.ok.big p hp))
  rw [eOut (fun hm => ?_)]
  ·exact G0_big k (by omega)
  ·simp [epM, keys] at hm
   omega
 ·intro j x hq0 hj hx hI C1 lb hC1 hh1 hY1
  unfold epI at hI
  subst hI
  rw [List.getElem?_map, List.getElem?_eq_getElem hj] at hx
  simp only [Option.map_some, Option.some.injEq] at hx
  subst hx
  have t1 := pS_take (fun i k => enLo g (fm i) (fm k) (esqF fs i k)) hj
  have t2 := pS_take (fun i k => enHi g (fm i) (fm k) (esqF fs i k)) hj
  have hmem := List.getElem_mem hj
  unfold epI
  rw [t1, t2]
  clear t1 t2
  generalize (epIx n)[j] = p at *
  obtain ⟨hl1, hl2⟩ := epIx_lt hmem
  have hsq := esq_in hrt (i := p.1) (k := p.2) hl2 (by omega)
  have hz1 : ¬ esqF fs p.1 p.2 = 0 := fun e => by
   have := (sum2_zero (Z := fun i k => if esqF fs i k = 0 then 1 else 0) (fun i k => by by_cases c : esqF fs i k = 0 <;> simp [c]) n).1 hz p.1 p.2 hl1 hl2
   simp [e] at this
  have hg := cfOk_g hok
  have hm1 := cfOk_mass hok (i := p.1) hl2
  have hm2 := cfOk_mass hok (i := p.2) (by omega)
  have hEI : EIn g (fm p.1) (fm p.2) (esqF fs p.1 p.2) := ⟨hg.1, hg.2, hm1.1, hm1.2, hm2.1, hm2.2, hsq.1, hsq.2⟩
  have P := epair_at hEI (by omega) rfl rfl
  have hlo := hEI.lo (by omega)
  have hhi := hEI.hi (by omega)
  have hld := ez_ld hq4
  generalize pS (fun i k => enLo g (fm i) (fm k) (esqF fs i k)) ((epIx n).take j) = A at *
  generalize pS (fun i k => enHi g (fm i) (fm k) (esqF fs i k)) ((epIx n).take j) = H at *
  generalize enLo g (fm p.1) (fm p.2) (esqF fs p.1 p.2) = lo at *
  generalize enHi g (fm p.1) (fm p.2) (esqF fs p.1 p.2) = hi at *
  have il : i64 lo := ⟨by omega, by omega⟩
  have ih : i64 hi := ⟨by omega, by omega⟩
  have hCC := hC
  have hC1' : C1.G = G0 := hC1.trans hC
  unfold epV
  clear hC hY
  have hC := hC1'
  have hY := hY1
  unfold epM spB ezB
  repeat' (first | refine gwA ?_ | ((first | refine gwR [] ?_ | refine gwD [] ?_); intro Q hQ hP; simp [hC, hY, roundTs, epTs]; refine hQ _ _ _ _ (by kernel_rfl) ?_; clear hQ hP Q) | (refine gwC ?_ ?_ <;> (intro hb; first | (cases hb; done) | skip)))
  intro C2 hC2 hh2 hY2
  clear hC hY
  have hC : C2.G = G0 := hC2.trans hCC
  have hY := hY2
  repeat' (first | refine gwA ?_ | ((first | refine gwR [] ?_ | refine gwD [] ?_); intro Q hQ hP; simp [hC, hY, P, hld, il, ih]; refine hQ _ _ _ _ (by kernel_rfl) ?_; clear hQ hP Q) | (refine gwC ?_ ?_ <;> (intro hb; first | (cases hb; done) | skip)))
  refine ⟨fun k => k, hpL G0 (epM cq (A + lo) (H + hi)), fun C0 h1 h2 => weakRL _ _ 300 (h1.trans hCC) G0F (m0 := []) (hasd C0 h2) (by omega) ?_ ?_ ?_ ?_ ?_, rfl⟩
  ·simp [epTs, epM, dom, junk, ren, renA, renF, ren0, idsV, idsA, idsF, ids0]
  ·simp [epM, ezB_rn, ezB_ids, spB, Blk.rn, renF, ren0, ids_lit, idsF, ids0, dom]
   rfl
  ·simp [epM]
  ·intro k hk; rfl
  ·simp
 ·refine .inl ⟨by simp, ?_⟩
  rintro hq hI
  have hI' : hq = hpL G0 (epM cq (potLo g fm fs n) (potHi g fm fs n)) := by
   rw [hI, List.take_length]
   unfold potLo potHi
   rw [sum2_ep _ hn4, sum2_ep _ hn4]
  subst hI'
  refine ⟨fun k hk => ?_, ?_⟩
  ·have h3 : k = 280 ∨ k = 281 ∨ (100 ≤ k ∧ k < 200) := by
    rcases List.mem_cons.1 hk with rfl | hk
    ·exact .inl rfl
    ·rcases List.mem_cons.1 hk with rfl | hk
     ·exact .inr (.inl rfl)
     ·obtain ⟨p, hp, rfl⟩ := mem_keys.1 hk
      exact .inr (.inr (hT.ok.big p hp))
   refine ⟨?_, by omega⟩
   rw [eOut (fun hm => ?_)]
   ·exact G0_big k (by omega)
   ·simp [epM, keys] at hm
    omega
  have hm16 := hout 216 (by omega) (by omega) (by omega)
  have hm24 := hout 224 (by omega) (by omega) (by omega)
  unfold epTs epM spB
  repeat' (first | refine gwA ?_ | ((first | refine gwR [] ?_ | refine gwD [] ?_); intro Q hQ hP; simp [hC, hY, addB, hm16, hm24]; refine hQ _ _ _ _ (by kernel_rfl) ?_; clear hQ hP Q) | (refine gwC ?_ ?_ <;> (intro hb; first | (cases hb; done) | skip)))
  refine ⟨.inr rfl, by simp [Tryz.results11, spV, addB, hm16, hm24], keep_of G0F (fun p hp => by
    have hpb := hT.ok.big p hp
    have hm9 : p.1 ∈ 280 :: 281 :: keys L := List.mem_cons_of_mem _ (List.mem_cons_of_mem _ (mem_keys.2 ⟨p, hp, rfl⟩))
    simp (disch := omega) only [eIn hm9, upd_other, hpL_cons, hpL_nil, if_neg, updL]) (fun k hk => by
    have hm9 : k ∉ 280 :: 281 :: keys L := fun hm9 => by
     rcases List.mem_cons.1 hm9 with rfl | hm9
     ·omega
     ·rcases List.mem_cons.1 hm9 with rfl | hm9
      ·omega
      ·obtain ⟨p, hp, rfl⟩ := mem_keys.1 hm9
       have := (hT.ok.big p hp).1
       omega
    simp (disch := omega) only [eNi hm9, upd_other, hpL_cons, hpL_nil, if_neg, updL, hLow])⟩
theorem heapK_less (t a : Int) {b nk : Nat} {hp : Hp} {K : Eff → Prop} (hb : 100 ≤ b) (h1 : hp b = some (wb t)) (hK : K ((Res.ret (wd (t - a)) []).eff [b])) :
  heapK Tryz.prog G0 41 #[Value.agg #[.int .u64 (wi (a) 0), .int .u64 (wi (a) 1), .int .u64 (wi (a) 2), .int .u64 (wi (a) 3)], .pointer (some ⟨b, 0, none⟩)] hp nk K :=
 heapK_mv (eless_fun t a) G0F (B := 200) ⟨by simp, by simp [keys], by simp [wb, ids_lit, idsF, ids0]⟩ (fun k => if k = 100 then b else k) (fun k hk => if_neg (by omega)) (by simp [ren, renA, renF, ren0]) (by simp) (by simp [wb, Blk.rn, renF, ren0, hb, h1]) (by simp [keys]) (by simp [keys]) hK
set_option maxRecDepth 8000 in
set_option maxHeartbeats 4000000 in
theorem eEnergy_fit (L : List (Nat × Blk)) (ks : Nat) (bm bs : Blk) (hT : LTwo G0 L ks bm bs) (off n cap off2 cap2 : Nat) (fm fs : Nat → Int) (hm : MB bm off n fm) (hSb : SB bs off2 n fs) (hcap : n ≤ cap) (hcap2 : n ≤ cap2) (g bx tp nr md st : Int) (hs : i64 st)
  (hok : cfOk n fm g bx tp nr md = true) (hrt : rightB st fs n = true) (hz : potZ fs n = 0) :
  Fun Tryz.prog G0 13 #[cfV (.slice (some ⟨100, off, none⟩) n cap) g bx tp nr md, .agg #[.int .i64 st, .slice (some ⟨ks, off2, none⟩) n cap2]] (hpL G0 L) (keys L) (.ret (.tuple #[spV (kinV fm fs n - potHi g fm fs n) (kinV fm fs n - potLo g fm fs n), .int .i64 0]) []) := by
 refine fun_ofL (B := 200) G0F Tryz.func13 rfl Tryz.call13 hT.ok ?_ (flatV_ids (by simp [spV])) (by simp) (by simp) (by simp [Tryz.ntmps13]) (by omega) ?_
 ·simp [idsV, idsA, idsF, ids0, hT.ia, hT.ib, cfV]
 intro C hC hC0 hY
 have hA := hT.a
 have hS := hT.s
 have hne := hT.ne
 have hLow := hT.low
 have hks := hT.k1
 have hks2 := hT.k2
 have hpo := epot_fit L ks bm bs hT off n cap off2 cap2 fm fs hm hSb hcap2 g bx tp nr md st hs hok hrt hz
 have hki := ekin_L L ks bm bs hT off n cap off2 n cap2 fm fs hm hSb hcap hcap2 g bx tp nr md st hs
 unfold kinW kinE at hki
 rw [fitB_iff.2 ⟨rfl, hok, hrt⟩, if_pos rfl, if_pos rfl] at hki
 unfold cfV spV at hpo
 unfold cfV at hki ⊢
 generalize kinV fm fs n = T at *
 generalize potLo g fm fs n = lo at *
 generalize potHi g fm fs n = hi at *
 repeat' (first | refine gwA ?_ | ((first | refine gwR [11, 9, 41] ?_ | refine gwD [11, 9, 41] ?_); intro Q hQ hP; simp [hC, hY, hA, hS, hne, wi_zero]; (repeat ((first | (refine heapK_L hpo hT.ok aMem ?_) | (refine heapK_L hki hT.ok aMem ?_) | (refine heapK_less T hi (by simp) ?_ ?_; focus (simp [wb]; done)) | (refine heapK_less T lo (by simp) ?_ ?_; focus (simp [wb]; done))); try simp [hC, hY, hA, hS, hne, wi_zero])); refine hQ _ _ _ _ (by kernel_rfl) ?_; clear hQ hP Q) | (refine gwC ?_ ?_ <;> (intro hb; first | (cases hb; done) | skip)))
 refine ⟨.inr rfl, by simp [Tryz.results13, spV], kpT G0F⟩
theorem epair_atz {g m w q : Int} (h : EIn g m w q) (hq : q = 0) (K : Value → Prop) : callK Tryz.prog G0 7 #[.int .i64 g, .int .i64 m, .int .i64 w, .int .i64 q] K ↔ K (.tuple #[.int .i64 0, .int .i64 0, .int .i64 30]) := callK_iff G0W (by kernel_rfl) (epair_z h hq)
theorem first_of {P : Nat × Nat → Prop} : ∀ {l : List (Nat × Nat)}, (∃ p ∈ l, P p) → ∃ N, ∃ h : N < l.length, P l[N] ∧ ∀ j, j < N → ∀ h : j < l.length, ¬ P l[j]
 | [], h => by obtain ⟨p, hp, _⟩ := h; cases hp
 | a :: l, h => by
  by_cases ha : P a
  ·exact ⟨0, by simp, ha, fun j hj => by omega⟩
  ·obtain ⟨p, hp, hP⟩ := h
   rcases List.mem_cons.1 hp with rfl | hp
   ·exact absurd hP ha
   ·obtain ⟨N, h1, h2, h3⟩ := first_of ⟨p, hp, hP⟩
    refine ⟨N + 1, by simpa using h1, by simpa using h2, fun j hj hl => ?_⟩
    cases j with
    | zero => exact ha
    | succ j => simpa using h3 j (by omega) (by simpa using hl)
theorem pS_ex {F : Nat → Nat → Int} : ∀ {l : List (Nat × Nat)}, ¬ pS F l = 0 → ∃ p ∈ l, ¬ F p.1 p.2 = 0
 | [], h => absurd rfl h
 | p :: l, h => by
  by_cases hp : F p.1 p.2 = 0
  ·obtain ⟨q, hq, h2⟩ := pS_ex (F := F) (l := l) fun e => h (by simp only [pS]; omega)
   exact ⟨q, List.mem_cons_of_mem _ hq, h2⟩
  ·exact ⟨p, by simp, hp⟩
theorem first_z {fs : Nat → Int} {n : Nat} (hn : 1 ≤ n ∧ n ≤ 4) (hz : ¬ potZ fs n = 0) : ∃ N, ∃ h : N < (epIx n).length, esqF fs (epIx n)[N].1 (epIx n)[N].2 = 0 ∧ ∀ j, j < N → ∀ h : j < (epIx n).length, ¬ esqF fs (epIx n)[j].1 (epIx n)[j].2 = 0 := by
 unfold potZ at hz
 rw [sum2_ep _ hn] at hz
 obtain ⟨p, hp, h⟩ := pS_ex hz
 refine first_of (P := fun p => esqF fs p.1 p.2 = 0) ⟨p, hp, ?_⟩
 by_cases c : esqF fs p.1 p.2 = 0
 ·exact c
 ·exact absurd (if_neg c) h
set_option maxRecDepth 8000 in
set_option maxHeartbeats 4000000 in
theorem epot_zero (L : List (Nat × Blk)) (ks : Nat) (bm bs : Blk) (hT : LTwo G0 L ks bm bs) (off n cap off2 cap2 : Nat) (fm fs : Nat → Int) (hm : MB bm off n fm) (hSb : SB bs off2 n fs) (hcap2 : n ≤ cap2) (g bx tp nr md st : Int) (hs : i64 st)
  (hok : cfOk n fm g bx tp nr md = true) (hrt : rightB st fs n = true) (hz : ¬ potZ fs n = 0) :
  Fun Tryz.prog G0 11 #[cfV (.slice (some ⟨100, off, none⟩) n cap) g bx tp nr md, .agg #[.int .i64 st, .slice (some ⟨ks, off2, none⟩) n cap2]] (hpL G0 L) (keys L) (.ret (.tuple #[spV 0 0, .int .i64 30]) []) := by
 refine fun_ofL (B := 200) G0F Tryz.func11 rfl Tryz.call11 hT.ok ?_ (flatV_ids (by simp [spV])) (by simp) (by simp) (by simp [Tryz.ntmps11]) (by omega) ?_
 ·simp [idsV, idsA, idsF, ids0, hT.ia, hT.ib, cfV]
 intro C hC hC0 hY
 have hA := hT.a
 have hS := hT.s
 have hne := hT.ne
 have hLow := hT.low
 have hks := hT.k1
 have hks2 := hT.k2
 have hfit := kFits_L L ks bm bs hT off n cap off2 n cap2 fm fs hm hSb g bx tp nr md st hs
 rw [fitB_iff.2 ⟨rfl, hok, hrt⟩] at hfit
 have hn4 := (right_n hrt).2.1
 obtain ⟨N, hN, hzN, hbef⟩ := first_z hn4 hz
 have hpr := epairs_at 280 (by omega) L ks bm bs hT off n cap off2 n cap2 g bx tp nr md st
 unfold cfV at hfit hpr ⊢
 repeat' (first | refine gwA ?_ | ((first | refine gwR [34] ?_ | refine gwD [34] ?_); intro Q hQ hP; simp [hC, hY, hA, hS, hne, wi_zero]; (repeat ((first | (refine heapK_L hfit hT.ok aMem ?_)); try simp [hC, hY, hA, hS, hne, wi_zero])); refine hQ _ _ _ _ (by kernel_rfl) ?_; clear hQ hP Q) | (refine gwC ?_ ?_ <;> (intro hb; first | (cases hb; done) | skip)))
 refine GW_list ?_
 simp only [Array.toList]
 refine GL_walk 2 [] rfl (by simp) (by kernel_rfl) ?_; intro q hq; simp [hC, hY, hA, hS, hne]; refine hq _ _ _ _ ?_; clear hq q
 simp only [wT, List.length_cons, List.length_nil, Nat.reduceAdd]
 refine GL_callL (f := .func 37) (cap := #[]) hC hpr rfl (by simp) rfl rfl (by simp [okT]) (by simp [gev]) (by simp) (by simp [okX, junk]) (by simp [gev]) (by intro q hq; obtain ⟨p, hp, rfl⟩ := mem_keys.1 hq; have hpb := hT.ok.big p hp; (try dsimp only); simp (disch := omega) only [upd_other]) (by (intro k hk; first | exact hLow k hk | (simp (disch := omega) only [hLow, addB, List.mem_cons, List.not_mem_nil, or_false, upd_other, hpL_cons, hpL_nil, if_neg, updL, List.cons_append, List.nil_append] <;> done))) (fun v ns hV k hk => by have := epairsR_key hV k hk; simp; omega) ?_
 rintro v ns ⟨rfl, rfl⟩
 refine GL_nil ?_
 repeat' (first | refine gwA ?_ | ((first | refine gwR [] ?_ | refine gwD [] ?_); intro Q hQ hP; simp [hC, hY, putT, updL, hA, hS, hne]; refine hQ _ _ _ _ (by kernel_rfl) ?_; clear hQ hP Q) | (refine gwC ?_ ?_ <;> (intro hb; first | (cases hb; done) | skip)))
 simp only [putT, updL]
 refine GW_freeze 200 (t := 24) (cs := #[.slice (some ⟨100, off, none⟩) n cap, .int .i64 g, .int .i64 bx, .int .i64 tp, .int .i64 nr, .int .i64 md]) (by simp [cfB]) (by omega) ?_
 intro cq hq1 hq2
 have hq4 : cq[1]? = some (.int .i64 g) := hq2 1 _ rfl rfl
 have hq6 : cq.size = 6 := hq1
 have hidL : ∀ k ∈ keys L, epr k = k := fun k hk => by
  obtain ⟨p, hp, rfl⟩ := mem_keys.1 hk
  exact epr_id (hT.ok.big p hp).2
 have hout : ∀ k, 200 ≤ k → k ≠ 280 → k ≠ 281 → (k ∈ 280 :: 281 :: keys L) = False := fun k h1 h2 h3 => eq_false fun hm => by
  rcases List.mem_cons.1 hm with e | hm
  ·exact h2 e
  ·rcases List.mem_cons.1 hm with e | hm
   ·exact h3 e
   ·obtain ⟨p, hp, rfl⟩ := mem_keys.1 hm
    have := (hT.ok.big p hp).2
    omega
 have hasd : ∀ C0 : Ctx, (C0.hp0 = fun k => if k ∈ 280 :: 281 :: keys L then none else C.hp0 k) → C0.hp0 = hpL G0 [] := fun C0 h0 => by
  rw [h0, hC0]
  exact eAsd hT.ok
 refine GW_rangeK (f := 70) (rs := 280 :: 281 :: keys L) (xs := (epIx n).map fun p => epV fm fs p.1 p.2) (caps := #[.pointer (some ⟨281, 0, none⟩), .pointer (some ⟨280, 0, none⟩)]) (280 :: 281 :: keys L) hY (by simp) ?_ ?_ (by simp [Tryz.ntmps11]) (tsL epTs) (tsL epTs) (epI cq (fun i k => enLo g (fm i) (fm k) (esqF fs i k)) (fun i k => enHi g (fm i) (fm k) (esqF fs i k)) (epIx n)) (hpS := hpL G0 (epM cq 0 0)) 300 N (by simp; omega) (fun k hk => hk) ?_ ?_ ?_ ?_ ?_ (fun _ => .inl rfl) ?_ ?_
 ·rw [hC]
  refine iterk_mv (epairs_it L ks bm bs hT off n cap off2 cap2 fm fs hm hSb hcap2 hn4 g bx tp nr md st) G0F (enM_ok hT off n cap off2 n cap2 g bx tp nr md st) epr (fun k hk => epr_id (by omega)) (by simp [ren0, epr]) ?_ (by (intro k hk; first | exact hLow k hk | (simp (disch := omega) only [hLow, addB, List.mem_cons, List.not_mem_nil, or_false, upd_other, hpL_cons, hpL_nil, if_neg, updL, List.cons_append, List.nil_append] <;> done))) ?_ ?_
  ·show epr 200 :: epr 208 :: (keys L).map epr = _
   rw [List.map_congr_left hidL]
   simp [epr]
  ·intro p hp
   rcases List.mem_cons.1 hp with rfl | hp
   ·simp [epr, cfB, Blk.rn, renF, ren0, upd]
   ·rcases List.mem_cons.1 hp with rfl | hp
    ·have h3 : epr ks = ks := epr_id hks2
     simp [stB', Blk.rn, renF, ren0, upd, h3]
     simp [epr, upd]
    ·have hpb := hT.ok.big p hp
     rw [epr_id hpb.2, Blk.fx_rn (hT.fx p hp)]
     refine ⟨hpb.1, ?_⟩
     (try dsimp only)
     simp (disch := omega) only [addB, upd_other, hpL_cons, hpL_nil, if_neg, updL]
     exact hT.mem p hp
  ·have key : ∀ k ∈ keys (enM L ks off n cap off2 n cap2 g bx tp nr md st), (k = 200 ∧ epr k = 280) ∨ (k = 208 ∧ epr k = 281) ∨ (k < 200 ∧ epr k = k) := fun k hk => by
    rcases List.mem_cons.1 hk with rfl | hk
    ·exact .inl ⟨rfl, rfl⟩
    ·rcases List.mem_cons.1 hk with rfl | hk
     ·exact .inr (.inl ⟨rfl, rfl⟩)
     ·obtain ⟨p, hp, rfl⟩ := mem_keys.1 hk
      have := (hT.ok.big p hp).2
      exact .inr (.inr ⟨this, epr_id this⟩)
   intro k hk l hl e
   have := key k hk
   have := key l hl
   omega
 ·intro x hx
  simp only [List.mem_map] at hx
  obtain ⟨p, _, rfl⟩ := hx
  simp [epV]
 ·intro k hk
  rcases List.mem_cons.1 hk with rfl | hk
  ·simp [dom, upd]
  ·rcases List.mem_cons.1 hk with rfl | hk
   ·simp [dom, upd]
   ·obtain ⟨p, hp, rfl⟩ := mem_keys.1 hk
    have hpb := hT.ok.big p hp
    refine ⟨hpb.1, ?_⟩
    unfold dom
    dsimp only
    simp (disch := omega) only [addB, upd_other, hpL_cons, hpL_nil, if_neg, updL]
    rw [hT.mem p hp]
    simp
 ·intro k hk b hb1
  rcases List.mem_cons.1 hk with rfl | hk
  ·simp [upd] at hb1; subst hb1; simp [cfB, ids_lit, idsF, ids0, hT.ia]
  ·rcases List.mem_cons.1 hk with rfl | hk
   ·simp [upd] at hb1; subst hb1; simp [stB', ids_lit, idsF, ids0, hT.ib]
   ·obtain ⟨p, hp, rfl⟩ := mem_keys.1 hk
    have hpb := hT.ok.big p hp
    dsimp only at hb1
    simp (disch := omega) only [addB, upd_other, hpL_cons, hpL_nil, if_neg, updL] at hb1
    rw [hT.mem p hp] at hb1
    simp only [Option.some.injEq] at hb1
    subst hb1
    exact Blk.fx_ids (hT.fx p hp) _
 ·intro C0 h1 h2
  refine weakL _ 300 (h1.trans hC) G0F (m0 := []) (hasd C0 h2) (by omega) ?_ ?_ ?_
  ·simp [epTs, epM, idsV, idsA, idsF, ids0, dom]
  ·simp [epM, ezB_ids, spB, ids_lit, idsF, ids0, dom, upd, wi_zero]
   rfl
  ·simp
 ·simp [epI, pS]
 ·intro k hk
  have h3 : k = 280 ∨ k = 281 ∨ (100 ≤ k ∧ k < 200) := by
   rcases List.mem_cons.1 hk with rfl | hk
   ·exact .inl rfl
   ·rcases List.mem_cons.1 hk with rfl | hk
    ·exact .inr (.inl rfl)
    ·obtain ⟨p, hp, rfl⟩ := mem_keys.1 hk
     exact .inr (.inr (hT.ok.big p hp))
  rw [eOut (fun hm => ?_)]
  ·exact G0_big k (by omega)
  ·simp [epM, keys] at hm
   omega
 ·intro j x hq0 hj0 hx hI C1 lb hC1 hh1 hY1
  have hj : j < (epIx n).length := by omega
  have hz1 := hbef j hj0 hj
  unfold epI at hI
  subst hI
  rw [List.getElem?_map, List.getElem?_eq_getElem hj] at hx
  simp only [Option.map_some, Option.some.injEq] at hx
  subst hx
  have t1 := pS_take (fun i k => enLo g (fm i) (fm k) (esqF fs i k)) hj
  have t2 := pS_take (fun i k => enHi g (fm i) (fm k) (esqF fs i k)) hj
  have hmem := List.getElem_mem hj
  unfold epI
  rw [t1, t2]
  clear t1 t2
  generalize (epIx n)[j] = p at *
  obtain ⟨hl1, hl2⟩ := epIx_lt hmem
  have hsq := esq_in hrt (i := p.1) (k := p.2) hl2 (by omega)
  have hg := cfOk_g hok
  have hm1 := cfOk_mass hok (i := p.1) hl2
  have hm2 := cfOk_mass hok (i := p.2) (by omega)
  have hEI : EIn g (fm p.1) (fm p.2) (esqF fs p.1 p.2) := ⟨hg.1, hg.2, hm1.1, hm1.2, hm2.1, hm2.2, hsq.1, hsq.2⟩
  have P := epair_at hEI (by omega) rfl rfl
  have hlo := hEI.lo (by omega)
  have hhi := hEI.hi (by omega)
  have hld := ez_ld hq4
  generalize pS (fun i k => enLo g (fm i) (fm k) (esqF fs i k)) ((epIx n).take j) = A at *
  generalize pS (fun i k => enHi g (fm i) (fm k) (esqF fs i k)) ((epIx n).take j) = H at *
  generalize enLo g (fm p.1) (fm p.2) (esqF fs p.1 p.2) = lo at *
  generalize enHi g (fm p.1) (fm p.2) (esqF fs p.1 p.2) = hi at *
  have il : i64 lo := ⟨by omega, by omega⟩
  have ih : i64 hi := ⟨by omega, by omega⟩
  have hCC := hC
  have hC1' : C1.G = G0 := hC1.trans hC
  unfold epV
  clear hC hY
  have hC := hC1'
  have hY := hY1
  unfold epM spB ezB
  repeat' (first | refine gwA ?_ | ((first | refine gwR [] ?_ | refine gwD [] ?_); intro Q hQ hP; simp [hC, hY, roundTs, epTs]; refine hQ _ _ _ _ (by kernel_rfl) ?_; clear hQ hP Q) | (refine gwC ?_ ?_ <;> (intro hb; first | (cases hb; done) | skip)))
  intro C2 hC2 hh2 hY2
  clear hC hY
  have hC : C2.G = G0 := hC2.trans hCC
  have hY := hY2
  repeat' (first | refine gwA ?_ | ((first | refine gwR [] ?_ | refine gwD [] ?_); intro Q hQ hP; simp [hC, hY, P, hld, il, ih]; refine hQ _ _ _ _ (by kernel_rfl) ?_; clear hQ hP Q) | (refine gwC ?_ ?_ <;> (intro hb; first | (cases hb; done) | skip)))
  refine ⟨fun k => k, hpL G0 (epM cq (A + lo) (H + hi)), fun C0 h1 h2 => weakRL _ _ 300 (h1.trans hCC) G0F (m0 := []) (hasd C0 h2) (by omega) ?_ ?_ ?_ ?_ ?_, rfl⟩
  ·simp [epTs, epM, dom, junk, ren, renA, renF, ren0, idsV, idsA, idsF, ids0]
  ·simp [epM, ezB_rn, ezB_ids, spB, Blk.rn, renF, ren0, ids_lit, idsF, ids0, dom]
   rfl
  ·simp [epM]
  ·intro k hk; rfl
  ·simp
 ·refine .inr ⟨epV fm fs (epIx n)[N].1 (epIx n)[N].2, by rw [List.getElem?_map, List.getElem?_eq_getElem hN]; rfl, ?_⟩
  intro hq0 hI C1 lb hC1 hh1 hY1
  unfold epI at hI
  subst hI
  have hmem := List.getElem_mem hN
  generalize (epIx n)[N] = p at *
  obtain ⟨hl1, hl2⟩ := epIx_lt hmem
  have hsq := esq_in hrt (i := p.1) (k := p.2) hl2 (by omega)
  have hg := cfOk_g hok
  have hm1 := cfOk_mass hok (i := p.1) hl2
  have hm2 := cfOk_mass hok (i := p.2) (by omega)
  have hEI : EIn g (fm p.1) (fm p.2) (esqF fs p.1 p.2) := ⟨hg.1, hg.2, hm1.1, hm1.2, hm2.1, hm2.2, hsq.1, hsq.2⟩
  have P := epair_atz hEI hzN
  have hld := ez_ld hq4
  generalize pS (fun i k => enLo g (fm i) (fm k) (esqF fs i k)) ((epIx n).take N) = A at *
  generalize pS (fun i k => enHi g (fm i) (fm k) (esqF fs i k)) ((epIx n).take N) = H at *
  have hCC := hC
  have hC1' : C1.G = G0 := hC1.trans hC
  unfold epV
  clear hC hY
  have hC := hC1'
  have hY := hY1
  unfold epM spB ezB
  repeat' (first | refine gwA ?_ | ((first | refine gwR [] ?_ | refine gwD [] ?_); intro Q hQ hP; simp [hC, hY, roundTs, epTs]; refine hQ _ _ _ _ (by kernel_rfl) ?_; clear hQ hP Q) | (refine gwC ?_ ?_ <;> (intro hb; first | (cases hb; done) | skip)))
  intro C2 hC2 hh2 hY2
  clear hC hY
  have hC : C2.G = G0 := hC2.trans hCC
  have hY := hY2
  repeat' (first | refine gwA ?_ | ((first | refine gwR [] ?_ | refine gwD [] ?_); intro Q hQ hP; simp [hC, hY, P, hld, wi_zero]; refine hQ _ _ _ _ (by kernel_rfl) ?_; clear hQ hP Q) | (refine gwC ?_ ?_ <;> (intro hb; first | (cases hb; done) | skip)))
  have hm16 := hout 216 (by omega) (by omega) (by omega)
  have hm24 := hout 224 (by omega) (by omega) (by omega)
  refine ⟨rfl, fun t => ?_, fun k hk => ?_, ?_⟩
  ·rcases tsL_mem (l := [(2, .pointer (some ⟨200, 0, none⟩)), (4, .pointer (some ⟨216, 0, none⟩)), (5, .pointer (some ⟨224, 0, none⟩))]) (t := t) with h | h
   ·unfold epTs; rw [h]; simp [junk, idsV, idsA, idsF, ids0]
   ·simp only [List.mem_cons, List.not_mem_nil, or_false, Prod.mk.injEq] at h
    unfold epTs
    rcases h with ⟨_, h⟩ | ⟨_, h⟩ | ⟨_, h⟩ <;> rw [h] <;> simp [idsV, idsA, idsF, ids0, dom]
  ·have h3 : k = 280 ∨ k = 281 ∨ (100 ≤ k ∧ k < 200) := by
    rcases List.mem_cons.1 hk with rfl | hk
    ·exact .inl rfl
    ·rcases List.mem_cons.1 hk with rfl | hk
     ·exact .inr (.inl rfl)
     ·obtain ⟨p, hp, rfl⟩ := mem_keys.1 hk
      exact .inr (.inr (hT.ok.big p hp))
   refine ⟨?_, by omega⟩
   simp (disch := omega) only [upd_other, hpL_cons, hpL_nil, if_neg, updL]
   exact G0_big k (by omega)
  ·
   repeat' (first | refine gwA ?_ | ((first | refine gwR [] ?_ | refine gwD [] ?_); intro Q hQ hP; simp [hC, hY, addB, hm16, hm24]; refine hQ _ _ _ _ (by kernel_rfl) ?_; clear hQ hP Q) | (refine gwC ?_ ?_ <;> (intro hb; first | (cases hb; done) | skip)))
   refine ⟨.inr rfl, by simp [Tryz.results11, spV, addB, hm16, hm24, epTs, wi_zero], keep_of G0F (fun p hp => by
    have hpb := hT.ok.big p hp
    have hm9 : p.1 ∈ 280 :: 281 :: keys L := List.mem_cons_of_mem _ (List.mem_cons_of_mem _ (mem_keys.2 ⟨p, hp, rfl⟩))
    simp (disch := omega) only [eIn hm9, upd_other, hpL_cons, hpL_nil, if_neg, updL]) (fun k hk => by
    have hm9 : k ∉ 280 :: 281 :: keys L := fun hm9 => by
     rcases List.mem_cons.1 hm9 with rfl | hm9
     ·omega
     ·rcases List.mem_cons.1 hm9 with rfl | hm9
      ·omega
      ·obtain ⟨p, hp, rfl⟩ := mem_keys.1 hm9
       have := (hT.ok.big p hp).1
       omega
    simp (disch := omega) only [eNi hm9, upd_other, hpL_cons, hpL_nil, if_neg, updL, hLow])⟩
set_option maxRecDepth 8000 in
set_option maxHeartbeats 4000000 in
theorem eEnergy_err (E : Int) (hE : ¬ E = 0) (L : List (Nat × Blk)) (ks : Nat) (bm bs : Blk) (hT : LTwo G0 L ks bm bs) (off n cap off2 n2 cap2 : Nat) (g bx tp nr md st : Int)
  (hpo : Fun Tryz.prog G0 11 #[cfV (.slice (some ⟨100, off, none⟩) n cap) g bx tp nr md, .agg #[.int .i64 st, .slice (some ⟨ks, off2, none⟩) n2 cap2]] (hpL G0 L) (keys L) (.ret (.tuple #[spV 0 0, .int .i64 E]) [])) :
  Fun Tryz.prog G0 13 #[cfV (.slice (some ⟨100, off, none⟩) n cap) g bx tp nr md, .agg #[.int .i64 st, .slice (some ⟨ks, off2, none⟩) n2 cap2]] (hpL G0 L) (keys L) (.ret (.tuple #[spV 0 0, .int .i64 E]) []) := by
 refine fun_ofL (B := 200) G0F Tryz.func13 rfl Tryz.call13 hT.ok ?_ (flatV_ids (by simp [spV])) (by simp) (by simp) (by simp [Tryz.ntmps13]) (by omega) ?_
 ·simp [idsV, idsA, idsF, ids0, hT.ia, hT.ib, cfV]
 intro C hC hC0 hY
 have hA := hT.a
 have hS := hT.s
 have hne := hT.ne
 have hLow := hT.low
 have hks := hT.k1
 have hks2 := hT.k2
 have hEb : (E != 0) = true := by simpa using hE
 have hEq : (E == 0) = false := by simpa using hE
 unfold cfV spV at hpo
 unfold cfV
 repeat' (first | refine gwA ?_ | ((first | refine gwR [11] ?_ | refine gwD [11] ?_); intro Q hQ hP; simp [hC, hY, hA, hS, hne, wi_zero, hE, hEb, hEq]; (repeat ((first | (refine heapK_L hpo hT.ok aMem ?_)); try simp [hC, hY, hA, hS, hne, wi_zero, hE, hEb, hEq])); refine hQ _ _ _ _ (by kernel_rfl) ?_; clear hQ hP Q) | (refine gwC ?_ ?_ <;> (intro hb; first | (cases hb; done) | skip)))
 refine ⟨.inr rfl, by simp [Tryz.results13, spV, wi_zero], kpT G0F⟩
def eLo (E : Int) (g : Int) (fm fs : Nat → Int) (n : Nat) : Int := if E = 0 then kinV fm fs n - potHi g fm fs n else 0
def eHi (E : Int) (g : Int) (fm fs : Nat → Int) (n : Nat) : Int := if E = 0 then kinV fm fs n - potLo g fm fs n else 0
def enE (n n2 : Nat) (fm fs : Nat → Int) (g bx tp nr md st : Int) : Int := potE n n2 (cfOk n fm g bx tp nr md) (rightB st fs n2) fs
def enV (n n2 : Nat) (fm fs : Nat → Int) (g bx tp nr md st : Int) : Value := .tuple #[spV (eLo (enE n n2 fm fs g bx tp nr md st) g fm fs n2) (eHi (enE n n2 fm fs g bx tp nr md st) g fm fs n2), .int .i64 (enE n n2 fm fs g bx tp nr md st)]
theorem eEnergy_L (L : List (Nat × Blk)) (ks : Nat) (bm bs : Blk) (hT : LTwo G0 L ks bm bs) (off n cap off2 n2 cap2 : Nat) (fm fs : Nat → Int) (hm : MB bm off n fm) (hSb : SB bs off2 n2 fs) (hcap : n ≤ cap) (hcap2 : n2 ≤ cap2) (g bx tp nr md st : Int) (hs : i64 st) :
  Fun Tryz.prog G0 13 #[cfV (.slice (some ⟨100, off, none⟩) n cap) g bx tp nr md, .agg #[.int .i64 st, .slice (some ⟨ks, off2, none⟩) n2 cap2]] (hpL G0 L) (keys L) (.ret (enV n n2 fm fs g bx tp nr md st) []) := by
 unfold enV eLo eHi enE potE
 cases hf : fitB n n2 (cfOk n fm g bx tp nr md) (rightB st fs n2) with
 | false =>
  simp only [Bool.false_eq_true, if_false, if_neg (show ¬ (2 : Int) = 0 by decide)]
  exact eEnergy_err 2 (by decide) L ks bm bs hT off n cap off2 n2 cap2 g bx tp nr md st (epot_bad L ks bm bs hT off n cap off2 n2 cap2 fm fs hm hSb g bx tp nr md st hs hf)
 | true =>
  obtain ⟨rfl, hok, hrt⟩ := fitB_iff.1 hf
  by_cases hz : potZ fs n = 0
  ·simp only [if_true, if_pos hz]
   exact eEnergy_fit L ks bm bs hT off n cap off2 cap2 fm fs hm hSb hcap hcap2 g bx tp nr md st hs hok hrt hz
  ·simp only [if_true, if_neg hz, if_neg (show ¬ (30 : Int) = 0 by decide)]
   exact eEnergy_err 30 (by decide) L ks bm bs hT off n cap off2 n cap2 g bx tp nr md st (epot_zero L ks bm bs hT off n cap off2 cap2 fm fs hm hSb hcap2 g bx tp nr md st hs hok hrt hz)
end Go.Gy
namespace Go.Gy
set_option linter.unusedSimpArgs false
set_option linter.unusedVariables false
open Go Go.RowKit Go.Proofs
theorem w11_ret (n lo hi : Int) : Ret Tryz.prog G0 95 #[.int .i64 n, .int .i64 lo, .int .i64 hi] (.bool (wiB n lo hi)) := by
 refine ret_of G0F Tryz.func95 rfl Tryz.call95 rfl (by simp) (by simp [Tryz.ntmps95]) ?_
 intro C hC hC0 hY
 unfold wiB
 by_cases c0 : lo ≤ n
 ·by_cases c1 : n ≤ hi
  ·rw [decide_eq_true ⟨c0, c1⟩]
   (repeat' (first | refine gwA ?_ | ((first | refine gwR [] ?_ | refine gwD [] ?_); intro Q hQ hP; simp [hC, hY, c0, c1]; refine hQ _ _ _ _ (by kernel_rfl) ?_; clear hQ hP Q) | (refine gwC ?_ ?_ <;> (intro hb; first | (cases hb; done) | skip))))
   refine ⟨.inr trivial, ?_⟩
   simp [Tryz.results95]
  ·rw [decide_eq_false (by omega)]
   (repeat' (first | refine gwA ?_ | ((first | refine gwR [] ?_ | refine gwD [] ?_); intro Q hQ hP; simp [hC, hY, c0, c1]; refine hQ _ _ _ _ (by kernel_rfl) ?_; clear hQ hP Q) | (refine gwC ?_ ?_ <;> (intro hb; first | (cases hb; done) | skip))))
   refine ⟨.inr trivial, ?_⟩
   simp [Tryz.results95]
 ·rw [decide_eq_false (by omega)]
  (repeat' (first | refine gwA ?_ | ((first | refine gwR [] ?_ | refine gwD [] ?_); intro Q hQ hP; simp [hC, hY, c0]; refine hQ _ _ _ _ (by kernel_rfl) ?_; clear hQ hP Q) | (refine gwC ?_ ?_ <;> (intro hb; first | (cases hb; done) | skip))))
  refine ⟨.inr trivial, ?_⟩
  simp [Tryz.results95]
@[simp] theorem w11 (n lo hi : Int) (K : Value → Prop) : callK Tryz.prog G0 95 #[.int .i64 n, .int .i64 lo, .int .i64 hi] K ↔ K (.bool (wiB n lo hi)) := callK_iff G0W (by kernel_rfl) (w11_ret n lo hi)
def whSt (b : Blk) (off n cap : Nat) (g bx tp nr md : Int) (i : Nat) : GS :=
 ⟨tsL [(1, .pointer (some ⟨200, 0, none⟩)), (3, .int .i64 i)], hpL G0 [(100, b), (200, cfB (.slice (some ⟨100, off, none⟩) n cap) g bx tp nr md)], 400, 0⟩
theorem allM_iff {f : Nat → Int} {n : Nat} : allM f n = true ↔ ∀ i, i < n → wiB (f i) 1 1024 = true := by simp [allM]
theorem why11_fun (b : Blk) (off n cap : Nat) (f : Nat → Int) (h : MB b off n f) (g bx tp nr md : Int) :
  Fun Tryz.prog G0 77 #[cfV (.slice (some ⟨100, off, none⟩) n cap) g bx tp nr md] (hpL G0 [(100, b)]) (keys [(100, b)]) (.ret (.string (whyS n f g bx tp nr md)) []) := by
 refine fun_ofL (B := 200) G0F Tryz.func77 rfl Tryz.call77 (oneL_ok h.fx) ?_ (by simp [idsV, idsA, idsF, ids0]) (by simp) (by simp) (by simp [Tryz.ntmps77]) (by omega) ?_
 ·simp [idsV, idsA, idsF, ids0, keys, cfV]
 intro C hC hC0 hY
 have hid := fun D => Blk.fx_ids h.fx D
 unfold cfV
 cases h4 : wiB n 1 4 with
 | false =>
  have hw : whyS n f g bx tp nr md = ⟨#[98, 111, 100, 105, 101, 115]⟩ := by simp [whyS, h4]
  rw [hw]
  repeat' (first | refine gwA ?_ | ((first | refine gwR [] ?_ | refine gwD [] ?_); intro Q hQ hP; simp [hC, hY, h4]; refine hQ _ _ _ _ (by kernel_rfl) ?_; clear hQ hP Q) | (refine gwC ?_ ?_ <;> (intro hb; first | (cases hb; done) | skip)))
  refine ⟨.inr rfl, by simp [Tryz.results77], kpS G0F⟩
 | true =>
  obtain ⟨N, hN, hlt, hend⟩ := leadB (fun i => wiB (f i) 1 1024) n
  repeat' (first | refine gwA ?_ | ((first | refine gwR [] ?_ | refine gwD [] ?_); intro Q hQ hP; simp [hC, hY, h4]; refine hQ _ _ _ _ (by kernel_rfl) ?_; clear hQ hP Q) | (refine gwC ?_ ?_ <;> (intro hb; first | (cases hb; done) | skip)))
  refine GW_for N (whSt b off n cap g bx tp nr md) ?_ ?_ ?_
  ·refine weakL _ 400 hC G0F (m0 := [(100, b)]) hC0 (by omega) ?_ ?_ ?_
   ·simp [idsV, idsA, idsF, ids0, dom]
   ·simp [cfB, ids_lit, idsF, ids0, hid, dom]
   ·simp
  ·intro i hi
   have hi' : (i : Int) < n := by omega
   have hz : (0 : Int) ≤ i := by omega
   have hnn := h.nn
   have hs : Int.bmod ((i : Int) + 1) 18446744073709551616 = ((i + 1 : Nat) : Int) := by rw [bm (by omega) (by omega)]; rfl
   have hld := h.at (i := i) (by omega)
   have hw := hlt i hi
   unfold whSt cfB
   repeat' (first | refine gwA ?_ | ((first | refine gwR [] ?_ | refine gwD [] ?_); intro Q hQ hP; simp [hC, hY, hi', hz, hs, hld, hw]; refine hQ _ _ _ _ (by kernel_rfl) ?_; clear hQ hP Q) | (refine gwC ?_ ?_ <;> (intro hb; first | (cases hb; done) | skip)))
   refine weakL _ 400 hC G0F (m0 := [(100, b)]) hC0 (by omega) ?_ ?_ ?_
   ·simp [idsV, idsA, idsF, ids0, dom, hs]
   ·simp [cfB, ids_lit, idsF, ids0, hid, dom]
   ·simp
  ·by_cases hNn : N = n
   ·have hNs := hNn.symm
    subst hNs
    have hm : allM f n = true := allM_iff.2 hlt
    cases hg : wiB g 1 1048576 with
    | false =>
     have hw : whyS n f g bx tp nr md = ⟨#[99, 111, 110, 115, 116, 97, 110, 116]⟩ := by simp [whyS, h4, hm, hg]
     rw [hw]
     unfold whSt cfB
     repeat' (first | refine gwA ?_ | ((first | refine gwR [] ?_ | refine gwD [] ?_); intro Q hQ hP; simp [hC, hY, h4, hg]; refine hQ _ _ _ _ (by kernel_rfl) ?_; clear hQ hP Q) | (refine gwC ?_ ?_ <;> (intro hb; first | (cases hb; done) | skip)))
     refine ⟨.inr rfl, by simp [Tryz.results77], kpS G0F⟩
    | true =>
     cases hx : wiB bx 1 1048576 with
     | false =>
      have hw : whyS n f g bx tp nr md = ⟨#[98, 111, 120]⟩ := by simp [whyS, h4, hm, hg, hx]
      rw [hw]
      unfold whSt cfB
      repeat' (first | refine gwA ?_ | ((first | refine gwR [] ?_ | refine gwD [] ?_); intro Q hQ hP; simp [hC, hY, h4, hg, hx]; refine hQ _ _ _ _ (by kernel_rfl) ?_; clear hQ hP Q) | (refine gwC ?_ ?_ <;> (intro hb; first | (cases hb; done) | skip)))
      refine ⟨.inr rfl, by simp [Tryz.results77], kpS G0F⟩
     | true =>
      cases ht : wiB tp 1 65536 with
      | false =>
       have hw : whyS n f g bx tp nr md = ⟨#[116, 111, 112]⟩ := by simp [whyS, h4, hm, hg, hx, ht]
       rw [hw]
       unfold whSt cfB
       repeat' (first | refine gwA ?_ | ((first | refine gwR [] ?_ | refine gwD [] ?_); intro Q hQ hP; simp [hC, hY, h4, hg, hx, ht]; refine hQ _ _ _ _ (by kernel_rfl) ?_; clear hQ hP Q) | (refine gwC ?_ ?_ <;> (intro hb; first | (cases hb; done) | skip)))
       refine ⟨.inr rfl, by simp [Tryz.results77], kpS G0F⟩
      | true =>
       cases hn : wiB nr 1 (Int.bmod (2 * bx) 18446744073709551616) with
       | false =>
        have hw : whyS n f g bx tp nr md = ⟨#[110, 101, 97, 114]⟩ := by simp [whyS, h4, hm, hg, hx, ht, hn]
        rw [hw]
        unfold whSt cfB
        repeat' (first | refine gwA ?_ | ((first | refine gwR [] ?_ | refine gwD [] ?_); intro Q hQ hP; simp [hC, hY, h4, hg, hx, ht, hn]; refine hQ _ _ _ _ (by kernel_rfl) ?_; clear hQ hP Q) | (refine gwC ?_ ?_ <;> (intro hb; first | (cases hb; done) | skip)))
        refine ⟨.inr rfl, by simp [Tryz.results77], kpS G0F⟩
       | true =>
        cases hd : wiB md 0 4 with
        | false =>
         have hw : whyS n f g bx tp nr md = ⟨#[109, 101, 116, 104, 111, 100]⟩ := by simp [whyS, h4, hm, hg, hx, ht, hn, hd]
         rw [hw]
         unfold whSt cfB
         repeat' (first | refine gwA ?_ | ((first | refine gwR [] ?_ | refine gwD [] ?_); intro Q hQ hP; simp [hC, hY, h4, hg, hx, ht, hn, hd]; refine hQ _ _ _ _ (by kernel_rfl) ?_; clear hQ hP Q) | (refine gwC ?_ ?_ <;> (intro hb; first | (cases hb; done) | skip)))
         refine ⟨.inr rfl, by simp [Tryz.results77], kpS G0F⟩
        | true =>
         have hw : whyS n f g bx tp nr md = ⟨#[]⟩ := by simp [whyS, h4, hm, hg, hx, ht, hn, hd]
         rw [hw]
         unfold whSt cfB
         repeat' (first | refine gwA ?_ | ((first | refine gwR [] ?_ | refine gwD [] ?_); intro Q hQ hP; simp [hC, hY, h4, hg, hx, ht, hn, hd]; refine hQ _ _ _ _ (by kernel_rfl) ?_; clear hQ hP Q) | (refine gwC ?_ ?_ <;> (intro hb; first | (cases hb; done) | skip)))
         refine ⟨.inr rfl, by simp [Tryz.results77], kpS G0F⟩
   ·have hNn' : N < n := by omega
    have hend := hend.resolve_left hNn
    have hm : allM f n = false := by
     cases hm : allM f n with
     | false => rfl
     | true => have := allM_iff.1 hm N hNn'; rw [hend] at this; cases this
    have hw : whyS n f g bx tp nr md = ⟨#[109, 97, 115, 115]⟩ := by simp [whyS, h4, hm]
    rw [hw]
    have hi' : (N : Int) < n := by omega
    have hz : (0 : Int) ≤ N := by omega
    have hld := h.at (i := N) (by omega)
    unfold whSt cfB
    repeat' (first | refine gwA ?_ | ((first | refine gwR [] ?_ | refine gwD [] ?_); intro Q hQ hP; simp [hC, hY, hi', hz, hld, hend]; refine hQ _ _ _ _ (by kernel_rfl) ?_; clear hQ hP Q) | (refine gwC ?_ ?_ <;> (intro hb; first | (cases hb; done) | skip)))
    refine ⟨.inr rfl, by simp [Tryz.results77], kpS G0F⟩
theorem chk11_fun (b : Blk) (off n cap : Nat) (f : Nat → Int) (h : MB b off n f) (g bx tp nr md : Int) :
  Fun Tryz.prog G0 46 #[cfV (.slice (some ⟨100, off, none⟩) n cap) g bx tp nr md] (hpL G0 [(100, b)]) (keys [(100, b)]) (.ret (.int .i64 (if cfOk n f g bx tp nr md = true then 0 else 110)) []) := by
 refine fun_ofL (B := 200) G0F Tryz.func46 rfl Tryz.call46 (oneL_ok h.fx) ?_ (by simp) (by simp) (by simp) (by simp [Tryz.ntmps46]) (by omega) ?_
 ·simp [idsV, idsA, idsF, ids0, keys, cfV]
 intro C hC hC0 hY
 have hr := fun ρ => Blk.fx_rn h.fx ρ
 have hne := whyS_ne2 n f g bx tp nr md
 unfold cfV
 cases hc : cfOk n f g bx tp nr md with
 | true =>
  rw [hc] at hne
  repeat' (first | refine gwA ?_ | ((first | refine gwR [77] ?_ | refine gwD [77] ?_); intro Q hQ hP; simp [hC, hY, hne]; (repeat ((first | (refine heapK_mv (why11_fun b off n cap f h g bx tp nr md) G0F (B := 200) (oneL_ok h.fx) (fun k => k) (fun k hk => rfl) (by simp [ren, renA, renF, ren0, cfV]) (by simp) (by simp [hr]) (by simp [keys]) (by simp [keys]; rfl) ?_)); try simp [hC, hY, hne])); refine hQ _ _ _ _ (by kernel_rfl) ?_; clear hQ hP Q) | (refine gwC ?_ ?_ <;> (intro hb; first | (cases hb; done) | skip)))
  refine ⟨.inr rfl, by simp [Tryz.results46], kpS G0F⟩
 | false =>
  rw [hc] at hne
  repeat' (first | refine gwA ?_ | ((first | refine gwR [77] ?_ | refine gwD [77] ?_); intro Q hQ hP; simp [hC, hY, hne]; (repeat ((first | (refine heapK_mv (why11_fun b off n cap f h g bx tp nr md) G0F (B := 200) (oneL_ok h.fx) (fun k => k) (fun k hk => rfl) (by simp [ren, renA, renF, ren0, cfV]) (by simp) (by simp [hr]) (by simp [keys]) (by simp [keys]; rfl) ?_)); try simp [hC, hY, hne])); refine hQ _ _ _ _ (by kernel_rfl) ?_; clear hQ hP Q) | (refine gwC ?_ ?_ <;> (intro hb; first | (cases hb; done) | skip)))
  refine ⟨.inr rfl, by simp [Tryz.results46], kpS G0F⟩
theorem why11_nil (g bx tp nr md : Int) : Ret Tryz.prog G0 77 #[.agg #[.slice none 0 0, .int .i64 g, .int .i64 bx, .int .i64 tp, .int .i64 nr, .int .i64 md]] (.string ⟨#[98, 111, 100, 105, 101, 115]⟩) := by
 refine ret_of G0F Tryz.func77 rfl Tryz.call77 (by simp) (by simp) (by simp [Tryz.ntmps77]) ?_
 intro C hC hC0 hY
 have h4 : wiB 0 1 4 = false := by decide
 repeat' (first | refine gwA ?_ | ((first | refine gwR [] ?_ | refine gwD [] ?_); intro Q hQ hP; simp [hC, hY, h4]; refine hQ _ _ _ _ (by kernel_rfl) ?_; clear hQ hP Q) | (refine gwC ?_ ?_ <;> (intro hb; first | (cases hb; done) | skip)))
 refine ⟨.inr trivial, ?_⟩
 simp [Tryz.results77]
@[simp] theorem why11N (g bx tp nr md : Int) (K : Value → Prop) : callK Tryz.prog G0 77 #[.agg #[.slice none 0 0, .int .i64 g, .int .i64 bx, .int .i64 tp, .int .i64 nr, .int .i64 md]] K ↔ K (.string ⟨#[98, 111, 100, 105, 101, 115]⟩) := callK_iff G0W (by kernel_rfl) (why11_nil g bx tp nr md)

theorem chk11_nil (g bx tp nr md : Int) : Ret Tryz.prog G0 46 #[cfV (.slice none 0 0) g bx tp nr md] (.int .i64 110) := by
 unfold cfV
 refine ret_of G0F Tryz.func46 rfl Tryz.call46 (by simp) (by simp) (by simp [Tryz.ntmps46]) ?_
 intro C hC hC0 hY
 have hne : sneB ⟨#[98, 111, 100, 105, 101, 115]⟩ ⟨#[]⟩ = true := by decide +kernel
 repeat' (first | refine gwA ?_ | ((first | refine gwR [] ?_ | refine gwD [] ?_); intro Q hQ hP; simp [hC, hY, hne]; refine hQ _ _ _ _ (by kernel_rfl) ?_; clear hQ hP Q) | (refine gwC ?_ ?_ <;> (intro hb; first | (cases hb; done) | skip)))
 refine ⟨.inr trivial, ?_⟩
 simp [Tryz.results46]
@[simp] theorem chk11N (g bx tp nr md : Int) (K : Value → Prop) : callK Tryz.prog G0 46 #[.agg #[.slice none 0 0, .int .i64 g, .int .i64 bx, .int .i64 tp, .int .i64 nr, .int .i64 md]] K ↔ K (.int .i64 110) := callK_iff G0W (by kernel_rfl) (chk11_nil g bx tp nr md)
def d2F (f : Nat → Int) (i k : Nat) : Int := (f (6 * i) - f (6 * k)) * (f (6 * i) - f (6 * k)) + (f (6 * i + 1) - f (6 * k + 1)) * (f (6 * i + 1) - f (6 * k + 1)) + (f (6 * i + 2) - f (6 * k + 2)) * (f (6 * i + 2) - f (6 * k + 2))
theorem f2V_plain {a0 a1 a2 b0 b1 b2 : Int} (h : inW 1048576 a0 ∧ inW 1048576 a1 ∧ inW 1048576 a2) (k : inW 1048576 b0 ∧ inW 1048576 b1 ∧ inW 1048576 b2) : f2V a0 a1 a2 b0 b1 b2 = (a0 - b0) * (a0 - b0) + (a1 - b1) * (a1 - b1) + (a2 - b2) * (a2 - b2) := by
 have e : f2E a0 a1 a2 b0 b1 b2 = 0 := by
  unfold f2E eaE subI fnI
  unfold inW at h k
  rw [if_pos (by omega)]
 unfold f2V
 rw [if_pos e]
theorem esq_d2 {st : Int} {fs : Nat → Int} {n : Nat} (hr : rightB st fs n = true) {i k : Nat} (hi : i < n) (hk : k < n) : esqF fs i k = d2F fs i k := f2V_plain (right_b hr hi).1 (right_b hr hk).1
theorem pot_d2 {st g : Int} {fm fs : Nat → Int} {n : Nat} (hr : rightB st fs n = true) : potLo g fm fs n = sum2 (fun i k => enLo g (fm i) (fm k) (d2F fs i k)) n ∧ potHi g fm fs n = sum2 (fun i k => enHi g (fm i) (fm k) (d2F fs i k)) n ∧ potZ fs n = sum2 (fun i k => if d2F fs i k = 0 then 1 else 0) n := by
 refine ⟨sum2_congr fun i k h1 h2 => ?_, sum2_congr fun i k h1 h2 => ?_, sum2_congr fun i k h1 h2 => ?_⟩ <;> rw [esq_d2 hr h2 (by omega)]
theorem sub_in {m a b : Int} (h : inW m a) (k : inW m b) : inW (2 * m) (a - b) := by
 unfold inW at *
 omega
theorem nat_succ {i n : Nat} (hi : i < n) (hn : n ≤ 4) : Int.bmod ((i : Int) + 1) 18446744073709551616 = ((i + 1 : Nat) : Int) := by
 rw [bm (by omega) (by omega)]
 rfl
theorem btw_ret (n lo hi : Int) : Ret Tryz.prog G0 30 #[.int .i64 n, .int .i64 lo, .int .i64 hi] (.bool (decide (lo ≤ n ∧ n ≤ hi))) := by
 refine ret_of G0F Tryz.func30 rfl Tryz.call30 rfl (by simp) (by simp [Tryz.ntmps30]) ?_
 intro C hC hC0 hY
 by_cases h1 : lo ≤ n
 ·by_cases h2 : n ≤ hi
  ·rw [decide_eq_true (show lo ≤ n ∧ n ≤ hi from ⟨h1, h2⟩)]
   repeat' (first | refine gwA ?_ | ((first | refine gwR [] ?_ | refine gwD [] ?_); intro Q hQ hP; simp [hC, hY, h1, h2]; refine hQ _ _ _ _ (by kernel_rfl) ?_; clear hQ hP Q) | (refine gwC ?_ ?_ <;> (intro hb; first | (cases hb; done) | skip)))
   refine ⟨.inr trivial, ?_⟩
   simp [Tryz.results30]
  ·rw [decide_eq_false (show ¬ (lo ≤ n ∧ n ≤ hi) from fun h => h2 h.2)]
   repeat' (first | refine gwA ?_ | ((first | refine gwR [] ?_ | refine gwD [] ?_); intro Q hQ hP; simp [hC, hY, h1, h2]; refine hQ _ _ _ _ (by kernel_rfl) ?_; clear hQ hP Q) | (refine gwC ?_ ?_ <;> (intro hb; first | (cases hb; done) | skip)))
   refine ⟨.inr trivial, ?_⟩
   simp [Tryz.results30]
 ·rw [decide_eq_false (show ¬ (lo ≤ n ∧ n ≤ hi) from fun h => h1 h.1)]
  repeat' (first | refine gwA ?_ | ((first | refine gwR [] ?_ | refine gwD [] ?_); intro Q hQ hP; simp [hC, hY, h1]; refine hQ _ _ _ _ (by kernel_rfl) ?_; clear hQ hP Q) | (refine gwC ?_ ?_ <;> (intro hb; first | (cases hb; done) | skip)))
  refine ⟨.inr trivial, ?_⟩
  simp [Tryz.results30]
theorem btw_t {n lo hi : Int} (h : lo ≤ n ∧ n ≤ hi) (K : Value → Prop) : callK Tryz.prog G0 30 #[.int .i64 n, .int .i64 lo, .int .i64 hi] K ↔ K (.bool true) := callK_iff G0W (by kernel_rfl) (by have := btw_ret n lo hi; rwa [decide_eq_true h] at this)
theorem btw_f {n lo hi : Int} (h : ¬ (lo ≤ n ∧ n ≤ hi)) (K : Value → Prop) : callK Tryz.prog G0 30 #[.int .i64 n, .int .i64 lo, .int .i64 hi] K ↔ K (.bool false) := callK_iff G0W (by kernel_rfl) (by have := btw_ret n lo hi; rwa [decide_eq_false h] at this)
theorem rpair_bad {g m w q : Int} (h : ¬ EIn g m w q) : Ret Tryz.prog G0 8 #[.int .i64 g, .int .i64 m, .int .i64 w, .int .i64 q] (.tuple #[.int .i64 0, .int .i64 0, .int .i64 2]) := by
 refine ret_of G0F Tryz.func8 rfl Tryz.call8 (by simp) (by simp) (by simp [Tryz.ntmps8]) ?_
 intro C hC hC0 hY
 by_cases c1 : 1 ≤ g ∧ g ≤ 1048576
 ·have t1 := btw_t c1
  by_cases c2 : 1 ≤ m ∧ m ≤ 1024
  ·have t2 := btw_t c2
   by_cases c3 : 1 ≤ w ∧ w ≤ 1024
   ·have t3 := btw_t c3
    have t4 := btw_f (n := q) (lo := 0) (hi := 13194139533312) fun c4 => h ⟨c1.1, c1.2, c2.1, c2.2, c3.1, c3.2, c4.1, c4.2⟩
    repeat' (first | refine gwA ?_ | ((first | refine gwR [] ?_ | refine gwD [] ?_); intro Q hQ hP; simp [hC, hY, t1, t2, t3, t4]; refine hQ _ _ _ _ (by kernel_rfl) ?_; clear hQ hP Q) | (refine gwC ?_ ?_ <;> (intro hb; first | (cases hb; done) | skip)))
    refine ⟨.inr trivial, ?_⟩
    simp [Tryz.results8]
   ·have t3 := btw_f c3
    repeat' (first | refine gwA ?_ | ((first | refine gwR [] ?_ | refine gwD [] ?_); intro Q hQ hP; simp [hC, hY, t1, t2, t3]; refine hQ _ _ _ _ (by kernel_rfl) ?_; clear hQ hP Q) | (refine gwC ?_ ?_ <;> (intro hb; first | (cases hb; done) | skip)))
    refine ⟨.inr trivial, ?_⟩
    simp [Tryz.results8]
  ·have t2 := btw_f c2
   repeat' (first | refine gwA ?_ | ((first | refine gwR [] ?_ | refine gwD [] ?_); intro Q hQ hP; simp [hC, hY, t1, t2]; refine hQ _ _ _ _ (by kernel_rfl) ?_; clear hQ hP Q) | (refine gwC ?_ ?_ <;> (intro hb; first | (cases hb; done) | skip)))
   refine ⟨.inr trivial, ?_⟩
   simp [Tryz.results8]
 ·have t1 := btw_f c1
  repeat' (first | refine gwA ?_ | ((first | refine gwR [] ?_ | refine gwD [] ?_); intro Q hQ hP; simp [hC, hY, t1]; refine hQ _ _ _ _ (by kernel_rfl) ?_; clear hQ hP Q) | (refine gwC ?_ ?_ <;> (intro hb; first | (cases hb; done) | skip)))
  refine ⟨.inr trivial, ?_⟩
  simp [Tryz.results8]
theorem rpair_z {g m w q : Int} (h : EIn g m w q) (hq : q = 0) : Ret Tryz.prog G0 8 #[.int .i64 g, .int .i64 m, .int .i64 w, .int .i64 q] (.tuple #[.int .i64 0, .int .i64 0, .int .i64 30]) := by
 refine ret_of G0F Tryz.func8 rfl Tryz.call8 (by simp) (by simp) (by simp [Tryz.ntmps8]) ?_
 intro C hC hC0 hY
 subst hq
 have t1 := btw_t ⟨h.g0, h.g1⟩
 have t2 := btw_t ⟨h.m0, h.m1⟩
 have t3 := btw_t ⟨h.w0, h.w1⟩
 have t4 := btw_t (n := 0) (lo := 0) (hi := 13194139533312) ⟨by omega, by omega⟩
 repeat' (first | refine gwA ?_ | ((first | refine gwR [] ?_ | refine gwD [] ?_); intro Q hQ hP; simp [hC, hY, t1, t2, t3, t4]; refine hQ _ _ _ _ (by kernel_rfl) ?_; clear hQ hP Q) | (refine gwC ?_ ?_ <;> (intro hb; first | (cases hb; done) | skip)))
 refine ⟨.inr trivial, ?_⟩
 simp [Tryz.results8]
set_option maxHeartbeats 2000000 in
theorem rpair_ok {g m w q : Int} (h : EIn g m w q) (hq : 0 < q) : Ret Tryz.prog G0 8 #[.int .i64 g, .int .i64 m, .int .i64 w, .int .i64 q] (.tuple #[.int .i64 (enLo g m w q), .int .i64 (enHi g m w q), .int .i64 0]) := by
 refine ret_of G0F Tryz.func8 rfl Tryz.call8 (by simp) (by simp) (by simp [Tryz.ntmps8]) ?_
 intro C hC hC0 hY
 have t1 := btw_t ⟨h.g0, h.g1⟩
 have t2 := btw_t ⟨h.m0, h.m1⟩
 have t3 := btw_t ⟨h.w0, h.w1⟩
 have t4 := btw_t ⟨h.q0, h.q1⟩
 have hqz : ¬ q = 0 := by omega
 have hqb : (q == 0) = false := by simpa using hqz
 have k1 := h.gm
 have k2 := h.gmw
 have k3 := h.a
 have k4 := h.aa
 have k5 := h.lo hq
 have k6 := h.hi hq
 have k7 := (h.holds hq).1
 have k8 := lolo_bd k5.1 k5.2 h.q0 h.q1
 have k9 := en_hi_eq g m w q
 have hw1 : (1 ≤ g ∧ g ≤ 1048576) := ⟨h.g0, h.g1⟩
 have hw2 : (1 ≤ m ∧ m ≤ 1024) ∧ (1 ≤ w ∧ w ≤ 1024) := ⟨⟨h.m0, h.m1⟩, h.w0, h.w1⟩
 have hq0 : ¬ q < 0 := by omega
 have hq1 : ¬ 13194139533312 < q := by have := h.q1; omega
 have iq : i64 q := ⟨by omega, by omega⟩
 have eA : enA g m w = g * m * w * 1048576 := rfl
 have eL : enLo g m w q = isq (enA g m w * enA g m w / q) := rfl
 have iA : i64 (enA g m w) := ⟨by omega, by omega⟩
 have iL : i64 (enLo g m w q) := ⟨by omega, by omega⟩
 have wA := i64_wr iA
 have wL := i64_wr iL
 have wq := i64_wr iq
 have wAA : wr (enA g m w * enA g m w) := ⟨Int.le_trans (by decide) k4.1, Int.lt_of_le_of_lt k4.2 (by decide)⟩
 have w2 : wr (enLo g m w q * enLo g m w q) := ⟨Int.le_trans (by decide) k8.1, Int.lt_of_le_of_lt k8.2.1 (by decide)⟩
 have w3 : wr (enLo g m w q * enLo g m w q * q) := ⟨Int.le_trans (by decide) k8.2.2.1, Int.lt_of_le_of_lt k8.2.2.2 (by decide)⟩
 have b1 : Int.bmod (g * m) 18446744073709551616 = g * m := bm (by omega) (by omega)
 have b2 : Int.bmod (g * m * w) 18446744073709551616 = g * m * w := bm (by omega) (by omega)
 have b3 : Int.bmod (g * m * w * 1048576) 18446744073709551616 = g * m * w * 1048576 := bm (by omega) (by omega)
 have b4 : Int.bmod (enLo g m w q + 1) 18446744073709551616 = enLo g m w q + 1 := bm (by omega) (by omega)
 have s1 := wr_sz wA
 have s2 := wr_sz wAA
 have s3 := wr_sz wL
 rw [k9]
 generalize enLo g m w q = R at *
 simp only [eA] at iA wA wAA k4 s1 s2 eL k7 k9 ⊢
 have hR := eL.symm
 clear eL eA
 have r4 : ∀ K : Value → Prop, callK Tryz.prog G0 32 #[Value.agg #[.int .u64 (wi ((g * m * w * 1048576 * (g * m * w * 1048576))) 0), .int .u64 (wi ((g * m * w * 1048576 * (g * m * w * 1048576))) 1), .int .u64 (wi ((g * m * w * 1048576 * (g * m * w * 1048576))) 2), .int .u64 (wi ((g * m * w * 1048576 * (g * m * w * 1048576))) 3)], Value.agg #[.int .u64 (wi (q) 0), .int .u64 (wi (q) 1), .int .u64 (wi (q) 2), .int .u64 (wi (q) 3)]] K ↔ K (.tuple #[wd R, .int .i64 0]) := fun K => by
  have := r4Of_p_ret (g * m * w * 1048576 * (g * m * w * 1048576)) q wAA wq k4.1 hq
  rw [hR] at this
  exact callK_iff G0W (by kernel_rfl) this
 have s4 := wr_sz w2
 have s5 := wr_sz wq
 by_cases c : R * R * q = g * m * w * 1048576 * (g * m * w * 1048576)
 ·rw [if_pos c]
  repeat' (first | refine gwA ?_ | ((first | refine gwR [] ?_ | refine gwD [] ?_); intro Q hQ hP; simp [hC, hY, t1, t2, t3, t4, hqz, hqb, b1, b2, b3, b4, iq, iA, iL, wA, wL, wq, wAA, w2, w3, s1, s2, s3, s4, s5, r4, c]; refine hQ _ _ _ _ (by kernel_rfl) ?_; clear hQ hP Q) | (refine gwC ?_ ?_ <;> (intro hb; first | (cases hb; done) | skip)))
  refine ⟨.inr trivial, ?_⟩
  simp [Tryz.results8]
 ·rw [if_neg c]
  have hw9 := weq (R * R * q) (g * m * w * 1048576 * (g * m * w * 1048576))
  rw [wr_sz w3, s2, decide_eq_false c] at hw9
  repeat' (first | refine gwA ?_ | ((first | refine gwR [] ?_ | refine gwD [] ?_); intro Q hQ hP; simp [hC, hY, t1, t2, t3, t4, hqz, hqb, b1, b2, b3, b4, iq, iA, iL, wA, wL, wq, wAA, w2, w3, s1, s2, s3, s4, s5, r4, c, hw9]; refine hQ _ _ _ _ (by kernel_rfl) ?_; clear hQ hP Q) | (refine gwC ?_ ?_ <;> (intro hb; first | (cases hb; done) | skip)))
  refine ⟨.inr trivial, ?_⟩
  simp [Tryz.results8, b4]
theorem pair_E (g m w q : Int) : ∃ lo hi e : Int, Ret Tryz.prog G0 7 #[.int .i64 g, .int .i64 m, .int .i64 w, .int .i64 q] (.tuple #[.int .i64 lo, .int .i64 hi, .int .i64 e]) ∧ Ret Tryz.prog G0 8 #[.int .i64 g, .int .i64 m, .int .i64 w, .int .i64 q] (.tuple #[.int .i64 lo, .int .i64 hi, .int .i64 e]) := by
 by_cases h : 1 ≤ g ∧ g ≤ 1048576 ∧ 1 ≤ m ∧ m ≤ 1024 ∧ 1 ≤ w ∧ w ≤ 1024 ∧ 0 ≤ q ∧ q ≤ 13194139533312
 ·have hE : EIn g m w q := ⟨h.1, h.2.1, h.2.2.1, h.2.2.2.1, h.2.2.2.2.1, h.2.2.2.2.2.1, h.2.2.2.2.2.2.1, h.2.2.2.2.2.2.2⟩
  by_cases hq : q = 0
  ·exact ⟨_, _, _, epair_z hE hq, rpair_z hE hq⟩
  ·exact ⟨_, _, _, epair_ok hE (by omega), rpair_ok hE (by omega)⟩
 ·have hE : ¬ EIn g m w q := fun e => h ⟨e.g0, e.g1, e.m0, e.m1, e.w0, e.w1, e.q0, e.q1⟩
  exact ⟨_, _, _, epair_bad hE, rpair_bad hE⟩
theorem rholds_ret (lo hi a : Int) : Ret Tryz.prog G0 18 #[spV lo hi, wd a] (.bool (holdB lo hi a)) := by
 refine ret_of G0F Tryz.func18 rfl Tryz.call18 rfl (by simp) (by simp [Tryz.ntmps18]) ?_
 intro C hC hC0 hY
 unfold spV holdB
 by_cases h1 : cmpI (sz lo) (sz a) ≤ 0
 ·rw [decide_eq_true h1]
  repeat' (first | refine gwA ?_ | ((first | refine gwR [] ?_ | refine gwD [] ?_); intro Q hQ hP; simp [hC, hY, h1]; refine hQ _ _ _ _ (by kernel_rfl) ?_; clear hQ hP Q) | (refine gwC ?_ ?_ <;> (intro hb; first | (cases hb; done) | skip)))
  refine ⟨.inr trivial, ?_⟩
  simp [Tryz.results18]
 ·rw [decide_eq_false h1]
  repeat' (first | refine gwA ?_ | ((first | refine gwR [] ?_ | refine gwD [] ?_); intro Q hQ hP; simp [hC, hY, h1]; refine hQ _ _ _ _ (by kernel_rfl) ?_; clear hQ hP Q) | (refine gwC ?_ ?_ <;> (intro hb; first | (cases hb; done) | skip)))
  refine ⟨.inr trivial, ?_⟩
  simp [Tryz.results18]
set_option maxHeartbeats 4000000 in
theorem ewidth_any (lo hi : Int) (a b e : Bool) (ha : ng hi = a) (hb : ng lo = b) (he : ng (hi - lo) = e) : Ret Tryz.prog G0 15 #[spV lo hi] (.tuple #[.int .i64 (if i64 (sz (hi - lo)) ∧ 0 ≤ sz (hi - lo) ∧ (a != b && e != a) = false then sz (hi - lo) else 0), .bool (decide (i64 (sz (hi - lo)) ∧ 0 ≤ sz (hi - lo) ∧ (a != b && e != a) = false))]) := by
 refine ret_of G0F Tryz.func15 rfl Tryz.call15 (by simp) (by simp) (by simp [Tryz.ntmps15]) ?_
 intro C hC hC0 hY
 unfold spV
 by_cases c : i64 (sz (hi - lo))
 ·by_cases c0 : 0 ≤ sz (hi - lo)
  ·have c1 : ¬ sz (hi - lo) < 0 := by omega
   cases a <;> cases b <;> cases e <;> ((repeat' (first | refine gwA ?_ | ((first | refine gwR [] ?_ | refine gwD [] ?_); intro Q hQ hP; simp [hC, hY, c, c0, c1, ha, hb, he]; refine hQ _ _ _ _ (by kernel_rfl) ?_; clear hQ hP Q) | (refine gwC ?_ ?_ <;> (intro hb; first | (cases hb; done) | skip)))); refine ⟨.inr trivial, ?_⟩; simp [Tryz.results15, c, c0])
  ·have c1 : sz (hi - lo) < 0 := by omega
   cases a <;> cases b <;> cases e <;> ((repeat' (first | refine gwA ?_ | ((first | refine gwR [] ?_ | refine gwD [] ?_); intro Q hQ hP; simp [hC, hY, c, c0, c1, ha, hb, he]; refine hQ _ _ _ _ (by kernel_rfl) ?_; clear hQ hP Q) | (refine gwC ?_ ?_ <;> (intro hb; first | (cases hb; done) | skip)))); refine ⟨.inr trivial, ?_⟩; simp [Tryz.results15, c, c0])
 ·cases a <;> cases b <;> cases e <;> ((repeat' (first | refine gwA ?_ | ((first | refine gwR [] ?_ | refine gwD [] ?_); intro Q hQ hP; simp [hC, hY, c, ha, hb, he]; refine hQ _ _ _ _ (by kernel_rfl) ?_; clear hQ hP Q) | (refine gwC ?_ ?_ <;> (intro hb; first | (cases hb; done) | skip)))); refine ⟨.inr trivial, ?_⟩; simp [Tryz.results15, c])
set_option maxHeartbeats 4000000 in
theorem rwidth_any (lo hi : Int) (a b e : Bool) (ha : ng hi = a) (hb : ng lo = b) (he : ng (hi - lo) = e) : Ret Tryz.prog G0 16 #[spV lo hi] (.tuple #[.int .i64 (if i64 (sz (hi - lo)) ∧ 0 ≤ sz (hi - lo) ∧ (a != b && e != a) = false then sz (hi - lo) else 0), .bool (decide (i64 (sz (hi - lo)) ∧ 0 ≤ sz (hi - lo) ∧ (a != b && e != a) = false))]) := by
 refine ret_of G0F Tryz.func16 rfl Tryz.call16 (by simp) (by simp) (by simp [Tryz.ntmps16]) ?_
 intro C hC hC0 hY
 unfold spV
 by_cases c : i64 (sz (hi - lo))
 ·by_cases c0 : 0 ≤ sz (hi - lo)
  ·have c1 : ¬ sz (hi - lo) < 0 := by omega
   cases a <;> cases b <;> cases e <;> ((repeat' (first | refine gwA ?_ | ((first | refine gwR [] ?_ | refine gwD [] ?_); intro Q hQ hP; simp [hC, hY, c, c0, c1, ha, hb, he]; refine hQ _ _ _ _ (by kernel_rfl) ?_; clear hQ hP Q) | (refine gwC ?_ ?_ <;> (intro hb; first | (cases hb; done) | skip)))); refine ⟨.inr trivial, ?_⟩; simp [Tryz.results16, c, c0])
  ·have c1 : sz (hi - lo) < 0 := by omega
   cases a <;> cases b <;> cases e <;> ((repeat' (first | refine gwA ?_ | ((first | refine gwR [] ?_ | refine gwD [] ?_); intro Q hQ hP; simp [hC, hY, c, c0, c1, ha, hb, he]; refine hQ _ _ _ _ (by kernel_rfl) ?_; clear hQ hP Q) | (refine gwC ?_ ?_ <;> (intro hb; first | (cases hb; done) | skip)))); refine ⟨.inr trivial, ?_⟩; simp [Tryz.results16, c, c0])
 ·cases a <;> cases b <;> cases e <;> ((repeat' (first | refine gwA ?_ | ((first | refine gwR [] ?_ | refine gwD [] ?_); intro Q hQ hP; simp [hC, hY, c, ha, hb, he]; refine hQ _ _ _ _ (by kernel_rfl) ?_; clear hQ hP Q) | (refine gwC ?_ ?_ <;> (intro hb; first | (cases hb; done) | skip)))); refine ⟨.inr trivial, ?_⟩; simp [Tryz.results16, c])
theorem width_E (lo hi : Int) : ∃ (n : Int) (k : Bool), Ret Tryz.prog G0 15 #[spV lo hi] (.tuple #[.int .i64 n, .bool k]) ∧ Ret Tryz.prog G0 16 #[spV lo hi] (.tuple #[.int .i64 n, .bool k]) :=
 ⟨_, _, ewidth_any lo hi _ _ _ rfl rfl rfl, rwidth_any lo hi _ _ _ rfl rfl rfl⟩
def rsSt (c n cap : Nat) (g x : Nat → Int) (i : Nat) : GS :=
 ⟨tsL [(0, .slice (some ⟨100, 0, none⟩) n cap), (2, .pointer (some ⟨200, 0, none⟩)), (3, .bool false), (4, .pointer (some ⟨216, 0, none⟩)), (5, .bool false), (6, .int .i64 i)],
 hpL G0 [(100, wRow c g), (200, ⟨#[.int .u64 0, .int .u64 0, .int .u64 0, .int .u64 0], .ty 30⟩), (216, ⟨#[.int .u64 (wi (sumN x i) 0), .int .u64 (wi (sumN x i) 1), .int .u64 (wi (sumN x i) 2), .int .u64 (wi (sumN x i) 3)], .ty 30⟩)], 400, 0⟩
set_option maxRecDepth 8000 in
set_option maxHeartbeats 4000000 in
theorem rSum_fun (c n : Nat) (g x : Nat → Int) (hnc : n ≤ c) (hn : n ≤ 1000) (hg : ∀ j, j < 4 * n → g j = wF x j) (hx : ∀ j, j < n → 0 ≤ x j ∧ x j ≤ 1152921504606846976) :
  Fun Tryz.prog G0 40 #[.slice (some ⟨100, 0, none⟩) n c] (hpL G0 [(100, wRow c g)]) (keys [(100, wRow c g)]) (.ret (.tuple #[wd (sumN x n), .bool false]) []) := by
 refine fun_ofL (B := 200) G0F Tryz.func40 rfl Tryz.call40 (wRow_ok c g) ?_ ?_ (by simp) (by simp) (by simp [Tryz.ntmps40]) (by omega) ?_
 ·simp [idsV, idsA, idsF, ids0, keys]
 ·exact flatV_ids (by simp)
 intro C hC hC0 hY
 have hid : ∀ D, Blk.ids D ⟨fa (4 * c) .u64 g, .ty 30⟩ := fun D => Blk.fx_ids (wRow_fx c g) D
 have e0 : sumN x 0 = 0 := rfl
 unfold wRow at hC0 ⊢
 repeat' (first | refine gwA ?_ | ((first | refine gwR [] ?_ | refine gwD [] ?_); intro Q hQ hP; simp [hC, hY, wi_zero]; refine hQ _ _ _ _ (by kernel_rfl) ?_; clear hQ hP Q) | (refine gwC ?_ ?_ <;> (intro hb; first | (cases hb; done) | skip)))
 refine GW_for n (rsSt c n c g x) ?_ ?_ ?_
 ·refine weakL _ 400 hC G0F (m0 := [(100, ⟨fa (4 * c) .u64 g, .ty 30⟩)]) hC0 (by omega) ?_ ?_ ?_
  ·simp [rsSt, wRow, idsV, idsA, idsF, ids0, dom]
  ·simp [rsSt, wRow, ids_lit, idsF, ids0, hid, e0, wi_zero]
  ·simp [rsSt, wRow, e0, wi_zero]
 ·intro i hi
  have hi' : (i : Int) < n := by omega
  have hz : (0 : Int) ≤ i := by omega
  have hs : Int.bmod ((i : Int) + 1) 18446744073709551616 = ((i + 1 : Nat) : Int) := by rw [bm (by omega) (by omega)]; rfl
  have hrd := wRow_rd hg hi hnc
  have hle : i * 4 + 4 ≤ 4 * c := by omega
  have hxi := hx i hi
  have hb := sumN_bd (f := x) (n := i) (lo := 0) (hi := 1152921504606846976) fun j hj => hx j (by omega)
  have hb1 : sumN x i ≤ 1000 * 1152921504606846976 := Int.le_trans hb.2 (Int.mul_le_mul_of_nonneg_right (by omega) (by omega))
  have hb0 : 0 ≤ sumN x i := by omega
  have w1 : wr (sumN x i) := by unfold wr; omega
  have w2 : wr (x i) := by unfold wr; omega
  have w3 : wr (sumN x i + x i) := by unfold wr; omega
  have g1 := ng_f w1 hb0
  have g2 := ng_f w2 hxi.1
  have g3 := ng_f w3 (by omega)
  have es : sumN x (i + 1) = sumN x i + x i := rfl
  clear hb hb1 hb0 w1 w2 w3 hxi
  unfold rsSt wRow
  repeat' (first | refine gwA ?_ | ((first | refine gwR [] ?_ | refine gwD [] ?_); intro Q hQ hP; simp [hC, hY, hi', hz, hrd, hle, g1, g2, g3]; refine hQ _ _ _ _ (by kernel_rfl) ?_; clear hQ hP Q) | (refine gwC ?_ ?_ <;> (intro hb; first | (cases hb; done) | skip)))
  refine weakL _ 400 hC G0F (m0 := [(100, ⟨fa (4 * c) .u64 g, .ty 30⟩)]) hC0 (by omega) ?_ ?_ ?_
  ·simp [idsV, idsA, idsF, ids0, dom, hs, g1, g2, g3]
  ·simp [ids_lit, idsF, ids0, hid, es]
  ·simp [es]
 ·unfold rsSt wRow
  repeat' (first | refine gwA ?_ | ((first | refine gwR [] ?_ | refine gwD [] ?_); intro Q hQ hP; simp [hC, hY]; refine hQ _ _ _ _ (by kernel_rfl) ?_; clear hQ hP Q) | (refine gwC ?_ ?_ <;> (intro hb; first | (cases hb; done) | skip)))
  refine ⟨.inr rfl, by simp [Tryz.results40], kpS G0F⟩
theorem rSum_nil : Ret Tryz.prog G0 40 #[.slice none 0 0] (.tuple #[wd 0, .bool false]) := by
 refine ret_of G0F Tryz.func40 rfl Tryz.call40 (by simp) (by simp) (by simp [Tryz.ntmps40]) ?_
 intro C hC hC0 hY
 repeat' (first | refine GWL_start ?_ | refine GWL_step ?_ | refine gwA ?_ | ((first | refine gwR [] ?_ | refine gwD [] ?_); intro Q hQ hP; simp [hC, hY, wi_zero]; refine hQ _ _ _ _ (by kernel_rfl) ?_; clear hQ hP Q) | (refine gwC ?_ ?_ <;> (intro hb; first | (cases hb; done) | skip)))
 refine ⟨.inr trivial, ?_⟩
 simp [Tryz.results40, wi_zero]
theorem sb_int {b : Blk} {off n : Nat} {f : Nat → Int} (h : SB b off n f) {i u : Nat} (hi : i < n) (hu : u < 6) : loadK Tryz.prog 3 b (off + i * 6 + u) = some (.int .i64 (f (6 * i + u))) := by
 have hbrd := Blk.fx_rd h.fx
 have := loadK_rd1 (P := Tryz.prog) (T := 3) (j := 6 * i + u) (tyAgg_of Tryz.isAgg3) h.rd (by omega)
 rwa [show off + i * 6 + u = off + (6 * i + u) by omega]
theorem d2_parts {st : Int} {f : Nat → Int} {n : Nat} (r : rightB st f n = true) {i k u : Nat} (hi : i < n) (hk : k < n) (hu : u < 3) : Int.bmod (f (6 * i + u) - f (6 * k + u)) 18446744073709551616 = f (6 * i + u) - f (6 * k + u) ∧ 0 ≤ (f (6 * i + u) - f (6 * k + u)) * (f (6 * i + u) - f (6 * k + u)) ∧ (f (6 * i + u) - f (6 * k + u)) * (f (6 * i + u) - f (6 * k + u)) ≤ 4398046511104 := by
 have key : ∀ a b : Int, inW 1048576 a → inW 1048576 b → Int.bmod (a - b) 18446744073709551616 = a - b ∧ 0 ≤ (a - b) * (a - b) ∧ (a - b) * (a - b) ≤ 4398046511104 := fun a b ha hb => by
  have s := sq_in (a := a - b) (m := 2097152) (sub_in ha hb)
  unfold inW at ha hb
  exact ⟨bm (by omega) (by omega), s.1, by omega⟩
 obtain ⟨⟨a0, a1, a2⟩, _⟩ := right_b r hi
 obtain ⟨⟨b0, b1, b2⟩, _⟩ := right_b r hk
 have : u = 0 ∨ u = 1 ∨ u = 2 := by omega
 rcases this with rfl | rfl | rfl
 ·exact key _ _ a0 b0
 ·exact key _ _ a1 b1
 ·exact key _ _ a2 b2
set_option maxRecDepth 8000 in
set_option maxHeartbeats 4000000 in
theorem square_fun (b : Blk) (off n cap : Nat) (f : Nat → Int) (h : SB b off n f) (st : Int) (r : rightB st f n = true) {i k : Nat} (hi : i < n) (hk : k < n) :
  Fun Tryz.prog G0 39 #[.agg #[.int .i64 st, .slice (some ⟨100, off, none⟩) n cap], .int .i64 i, .int .i64 k] (hpL G0 [(100, b)]) (keys [(100, b)]) (.ret (.int .i64 (d2F f i k)) []) := by
 refine fun_ofL (B := 200) G0F Tryz.func39 rfl Tryz.call39 (oneL_ok h.fx) ?_ (by simp) (by simp) (by simp) (by simp [Tryz.ntmps39]) (by omega) ?_
 ·simp [idsV, idsA, idsF, ids0, keys]
 intro C hC hC0 hY
 have hi1 : (i : Int) < n := Int.ofNat_lt.2 hi
 have hk1 : (k : Int) < n := Int.ofNat_lt.2 hk
 have hiz : (0 : Int) ≤ i := Int.natCast_nonneg i
 have hkz : (0 : Int) ≤ k := Int.natCast_nonneg k
 have i0 := sb_int h (u := 0) hi (by omega)
 have i1 := sb_int h (u := 1) hi (by omega)
 have i2 := sb_int h (u := 2) hi (by omega)
 have j0 := sb_int h (u := 0) hk (by omega)
 have j1 := sb_int h (u := 1) hk (by omega)
 have j2 := sb_int h (u := 2) hk (by omega)
 obtain ⟨d0, e0, f0⟩ := d2_parts r (u := 0) hi hk (by omega)
 obtain ⟨d1, e1, f1⟩ := d2_parts r (u := 1) hi hk (by omega)
 obtain ⟨d2, e2, f2⟩ := d2_parts r (u := 2) hi hk (by omega)
 have hd : d2F f i k = (f (6 * i) - f (6 * k)) * (f (6 * i) - f (6 * k)) + (f (6 * i + 1) - f (6 * k + 1)) * (f (6 * i + 1) - f (6 * k + 1)) + (f (6 * i + 2) - f (6 * k + 2)) * (f (6 * i + 2) - f (6 * k + 2)) := rfl
 simp only [Nat.add_zero] at i0 j0 d0 e0 f0
 have q0 : Int.bmod ((f (6 * i) - f (6 * k)) * (f (6 * i) - f (6 * k))) 18446744073709551616 = (f (6 * i) - f (6 * k)) * (f (6 * i) - f (6 * k)) := bm (by omega) (by omega)
 have q1 : Int.bmod ((f (6 * i + 1) - f (6 * k + 1)) * (f (6 * i + 1) - f (6 * k + 1))) 18446744073709551616 = (f (6 * i + 1) - f (6 * k + 1)) * (f (6 * i + 1) - f (6 * k + 1)) := bm (by omega) (by omega)
 have q2 : Int.bmod ((f (6 * i + 2) - f (6 * k + 2)) * (f (6 * i + 2) - f (6 * k + 2))) 18446744073709551616 = (f (6 * i + 2) - f (6 * k + 2)) * (f (6 * i + 2) - f (6 * k + 2)) := bm (by omega) (by omega)
 have p1 : Int.bmod ((f (6 * i) - f (6 * k)) * (f (6 * i) - f (6 * k)) + (f (6 * i + 1) - f (6 * k + 1)) * (f (6 * i + 1) - f (6 * k + 1))) 18446744073709551616 = (f (6 * i) - f (6 * k)) * (f (6 * i) - f (6 * k)) + (f (6 * i + 1) - f (6 * k + 1)) * (f (6 * i + 1) - f (6 * k + 1)) := bm (by omega) (by omega)
 have p2 : Int.bmod ((f (6 * i) - f (6 * k)) * (f (6 * i) - f (6 * k)) + (f (6 * i + 1) - f (6 * k + 1)) * (f (6 * i + 1) - f (6 * k + 1)) + (f (6 * i + 2) - f (6 * k + 2)) * (f (6 * i + 2) - f (6 * k + 2))) 18446744073709551616 = (f (6 * i) - f (6 * k)) * (f (6 * i) - f (6 * k)) + (f (6 * i + 1) - f (6 * k + 1)) * (f (6 * i + 1) - f (6 * k + 1)) + (f (6 * i + 2) - f (6 * k + 2)) * (f (6 * i + 2) - f (6 * k + 2)) := bm (by omega) (by omega)
 repeat' (first | refine GWL_start ?_ | refine GWL_step ?_ | refine gwA ?_ | ((first | refine gwR [] ?_ | refine gwD [] ?_); intro Q hQ hP; simp [hC, hY, hi1, hk1, hiz, hkz, i0, i1, i2, j0, j1, j2, d0, d1, d2, q0, q1, q2, p1, p2]; refine hQ _ _ _ _ (by kernel_rfl) ?_; clear hQ hP Q) | (refine gwC ?_ ?_ <;> (intro hb; first | (cases hb; done) | skip)))
 refine ⟨.inr rfl, by simp [Tryz.results39, hd], kpS G0F⟩
set_option maxRecDepth 8000 in
set_option maxHeartbeats 2000000 in
theorem fits16_L (L : List (Nat × Blk)) (ks : Nat) (bm bs : Blk) (hT : LTwo G0 L ks bm bs) (off n cap off2 n2 cap2 : Nat) (fm fs : Nat → Int) (hm : MB bm off n fm) (hSb : SB bs off2 n2 fs) (g bx tp nr md st : Int) :
  Fun Tryz.prog G0 19 #[cfV (.slice (some ⟨100, off, none⟩) n cap) g bx tp nr md, .agg #[.int .i64 st, .slice (some ⟨ks, off2, none⟩) n2 cap2]] (hpL G0 L) (keys L) (.ret (.bool (fitB n n2 (cfOk n fm g bx tp nr md) (rightB st fs n2))) []) := by
 refine fun_ofL (B := 200) G0F Tryz.func19 rfl Tryz.call19 hT.ok ?_ (by simp) (by simp) (by simp) (by simp [Tryz.ntmps19]) (by omega) ?_
 ·simp [idsV, idsA, idsF, ids0, hT.ia, hT.ib, cfV]
 intro C hC hC0 hY
 have hA := hT.a
 have hS := hT.s
 have hne := hT.ne
 have hLow := hT.low
 have hks := hT.k1
 have hks2 := hT.k2
 have hrm := fun ρ => Blk.fx_rn hm.fx ρ
 have hrs := fun ρ => Blk.fx_rn hSb.fx ρ
 have hck := chk11_fun bm off n cap fm hm g bx tp nr md
 have hri := rig10_fun bs off2 n2 cap2 fs hSb st
 unfold fitB
 unfold cfV at hck ⊢
 cases hc : cfOk n fm g bx tp nr md with
 | false =>
  rw [hc] at hck
  rw [show (decide (n = n2) && (false && rightB st fs n2)) = false by simp]
  repeat' (first | refine gwA ?_ | ((first | refine gwR [46, 47] ?_ | refine gwD [46, 47] ?_); intro Q hQ hP; simp [hC, hY, hA, hS, hne]; (repeat ((first | (refine heapK_mv hck G0F (B := 200) (oneL_ok hm.fx) (fun k => k) (fun k hk => rfl) (by simp [ren, renA, renF, ren0, cfV]) (by simp) (by simp [hrm, hA]) (by simp [keys]) (by simp [keys]; rfl) ?_)); try simp [hC, hY, hA, hS, hne])); refine hQ _ _ _ _ (by kernel_rfl) ?_; clear hQ hP Q) | (refine gwC ?_ ?_ <;> (intro hb; first | (cases hb; done) | skip)))
  refine ⟨.inr rfl, by simp [Tryz.results19], kpT G0F⟩
 | true =>
  rw [hc] at hck
  cases hr : rightB st fs n2 with
  | false =>
   rw [hr] at hri
   rw [show (decide (n = n2) && (true && false)) = false by simp]
   repeat' (first | refine gwA ?_ | ((first | refine gwR [46, 47] ?_ | refine gwD [46, 47] ?_); intro Q hQ hP; simp [hC, hY, hA, hS, hne]; (repeat ((first | (refine heapK_mv hck G0F (B := 200) (oneL_ok hm.fx) (fun k => k) (fun k hk => rfl) (by simp [ren, renA, renF, ren0, cfV]) (by simp) (by simp [hrm, hA]) (by simp [keys]) (by simp [keys]; rfl) ?_) | (refine heapK_mv hri G0F (B := 200) (oneL_ok hSb.fx) (fun k => if k = 100 then ks else k) (fun k hk => if_neg (by omega)) (by simp [ren, renA, renF, ren0]) (by simp) (by simp [hrs, hS, hne, hks]) (by simp [keys]) (by simp [keys]; rfl) ?_)); try simp [hC, hY, hA, hS, hne])); refine hQ _ _ _ _ (by kernel_rfl) ?_; clear hQ hP Q) | (refine gwC ?_ ?_ <;> (intro hb; first | (cases hb; done) | skip)))
   refine ⟨.inr rfl, by simp [Tryz.results19], kpT G0F⟩
  | true =>
   rw [hr] at hri
   by_cases hn : n = n2
   ·have hn' : (n : Int) = (n2 : Int) := by omega
    have hnb : ((n : Int) == (n2 : Int)) = true := by simpa using hn'
    rw [decide_eq_true hn]
    repeat' (first | refine gwA ?_ | ((first | refine gwR [46, 47] ?_ | refine gwD [46, 47] ?_); intro Q hQ hP; simp [hC, hY, hA, hS, hne, hn', hnb]; (repeat ((first | (refine heapK_mv hck G0F (B := 200) (oneL_ok hm.fx) (fun k => k) (fun k hk => rfl) (by simp [ren, renA, renF, ren0, cfV]) (by simp) (by simp [hrm, hA]) (by simp [keys]) (by simp [keys]; rfl) ?_) | (refine heapK_mv hri G0F (B := 200) (oneL_ok hSb.fx) (fun k => if k = 100 then ks else k) (fun k hk => if_neg (by omega)) (by simp [ren, renA, renF, ren0]) (by simp) (by simp [hrs, hS, hne, hks]) (by simp [keys]) (by simp [keys]; rfl) ?_)); try simp [hC, hY, hA, hS, hne, hn', hnb])); refine hQ _ _ _ _ (by kernel_rfl) ?_; clear hQ hP Q) | (refine gwC ?_ ?_ <;> (intro hb; first | (cases hb; done) | skip)))
    refine ⟨.inr rfl, by simp [Tryz.results19], kpT G0F⟩
   ·have hn' : ¬ (n : Int) = (n2 : Int) := by omega
    have hnb : ((n : Int) == (n2 : Int)) = false := by simpa using hn'
    rw [decide_eq_false hn]
    repeat' (first | refine gwA ?_ | ((first | refine gwR [46, 47] ?_ | refine gwD [46, 47] ?_); intro Q hQ hP; simp [hC, hY, hA, hS, hne, hn', hnb]; (repeat ((first | (refine heapK_mv hck G0F (B := 200) (oneL_ok hm.fx) (fun k => k) (fun k hk => rfl) (by simp [ren, renA, renF, ren0, cfV]) (by simp) (by simp [hrm, hA]) (by simp [keys]) (by simp [keys]; rfl) ?_) | (refine heapK_mv hri G0F (B := 200) (oneL_ok hSb.fx) (fun k => if k = 100 then ks else k) (fun k hk => if_neg (by omega)) (by simp [ren, renA, renF, ren0]) (by simp) (by simp [hrs, hS, hne, hks]) (by simp [keys]) (by simp [keys]; rfl) ?_)); try simp [hC, hY, hA, hS, hne, hn', hnb])); refine hQ _ _ _ _ (by kernel_rfl) ?_; clear hQ hP Q) | (refine gwC ?_ ?_ <;> (intro hb; first | (cases hb; done) | skip)))
    refine ⟨.inr rfl, by simp [Tryz.results19], kpT G0F⟩
theorem great_L (L : List (Nat × Blk)) (ks : Nat) (bm bs : Blk) (hT : LTwo G0 L ks bm bs) (off n cap off2 n2 cap2 : Nat) (g bx tp nr md st : Int) :
  Fun Tryz.prog G0 5 #[cfV (.slice (some ⟨100, off, none⟩) n cap) g bx tp nr md, .agg #[.int .i64 st, .slice (some ⟨ks, off2, none⟩) n2 cap2]] (hpL G0 L) (keys L) (.ret (.bool (decide (9 < n) || decide (9 < n2))) []) := by
 refine fun_ofL (B := 200) G0F Tryz.func5 rfl Tryz.call5 hT.ok ?_ (by simp) (by simp) (by simp) (by simp [Tryz.ntmps5]) (by omega) ?_
 ·simp [idsV, idsA, idsF, ids0, hT.ia, hT.ib, cfV]
 intro C hC hC0 hY
 have hLow := hT.low
 unfold cfV
 by_cases h1 : 9 < n
 ·have h1' : (9 : Int) < (n : Int) := by omega
  rw [decide_eq_true h1, Bool.true_or]
  repeat' (first | refine gwA ?_ | ((first | refine gwR [] ?_ | refine gwD [] ?_); intro Q hQ hP; simp [hC, hY, h1']; refine hQ _ _ _ _ (by kernel_rfl) ?_; clear hQ hP Q) | (refine gwC ?_ ?_ <;> (intro hb; first | (cases hb; done) | skip)))
  refine ⟨.inr rfl, by simp [Tryz.results5], kpT G0F⟩
 ·have h1' : ¬ (9 : Int) < (n : Int) := by omega
  rw [decide_eq_false h1, Bool.false_or]
  by_cases h2 : 9 < n2
  ·have h2' : (9 : Int) < (n2 : Int) := by omega
   rw [decide_eq_true h2]
   repeat' (first | refine gwA ?_ | ((first | refine gwR [] ?_ | refine gwD [] ?_); intro Q hQ hP; simp [hC, hY, h1', h2']; refine hQ _ _ _ _ (by kernel_rfl) ?_; clear hQ hP Q) | (refine gwC ?_ ?_ <;> (intro hb; first | (cases hb; done) | skip)))
   refine ⟨.inr rfl, by simp [Tryz.results5], kpT G0F⟩
  ·have h2' : ¬ (9 : Int) < (n2 : Int) := by omega
   rw [decide_eq_false h2]
   repeat' (first | refine gwA ?_ | ((first | refine gwR [] ?_ | refine gwD [] ?_); intro Q hQ hP; simp [hC, hY, h1', h2']; refine hQ _ _ _ _ (by kernel_rfl) ?_; clear hQ hP Q) | (refine gwC ?_ ?_ <;> (intro hb; first | (cases hb; done) | skip)))
   refine ⟨.inr rfl, by simp [Tryz.results5], kpT G0F⟩
theorem mv_in {m v : Int} (h : 1 ≤ m ∧ m ≤ 1024) (k : inW 65536 v) : Int.bmod (m * v) 18446744073709551616 = m * v ∧ Int.bmod (m * v * v) 18446744073709551616 = m * v * v ∧ 0 ≤ m * v * v ∧ m * v * v ≤ 4398046511104 := by
 obtain ⟨s0, s1⟩ := sq_in k
 obtain ⟨_, k1, k2⟩ := k
 have b1 : -67108864 ≤ m * v ∧ m * v ≤ 67108864 := by
  by_cases c : 0 ≤ v
  ·have h1 := Int.mul_le_mul (a := m) (b := v) (c := 1024) (d := 65536) h.2 k2 c (by omega)
   have h0 := Int.mul_nonneg (a := m) (b := v) (by omega) c
   omega
  ·have h1 := Int.mul_le_mul (a := m) (b := -v) (c := 1024) (d := 65536) h.2 (by omega) (by omega) (by omega)
   have h0 := Int.mul_nonneg (a := m) (b := -v) (by omega) (by omega)
   rw [Int.mul_neg] at h0 h1
   omega
 have b2 : 0 ≤ m * v * v ∧ m * v * v ≤ 4398046511104 := by
  rw [Int.mul_assoc]
  exact ⟨Int.mul_nonneg (by omega) s0, Int.le_trans (Int.mul_le_mul h.2 s1 s0 (by omega)) (by omega)⟩
 exact ⟨bm (by omega) (by omega), bm (by omega) (by omega), b2⟩
theorem kinF_3 {m v0 v1 v2 : Int} (h0 : inW 65536 v0) (h1 : inW 65536 v1) (h2 : inW 65536 v2) : m * v0 * v0 + m * v1 * v1 + m * v2 * v2 = m * dtV v0 v1 v2 v0 v1 v2 := by
 rw [(dtV_in h0 h1 h2).1, Int.mul_add, Int.mul_add, Int.mul_assoc, Int.mul_assoc, Int.mul_assoc]
def rkSt (L : List (Nat × Blk)) (ks off n cap off2 cap2 : Nat) (g bx tp nr md st S : Int) (i : Nat) : GS :=
 ⟨tsL [(2, .pointer (some ⟨200, 0, none⟩)), (3, .pointer (some ⟨208, 0, none⟩)), (4, .pointer (some ⟨216, 0, none⟩)), (5, .int .i64 0), (6, .int .i64 S), (7, .int .i64 i)],
 hpL G0 ([(200, cfB (.slice (some ⟨100, off, none⟩) n cap) g bx tp nr md), (208, stB' st ks off2 n cap2), (216, wb 0)] ++ L), 300, 0⟩
set_option maxRecDepth 8000 in
set_option maxHeartbeats 4000000 in
theorem rkin_L (L : List (Nat × Blk)) (ks : Nat) (bm bs : Blk) (hT : LTwo G0 L ks bm bs) (off n cap off2 n2 cap2 : Nat) (fm fs : Nat → Int) (hm : MB bm off n fm) (hSb : SB bs off2 n2 fs) (hcap : n ≤ cap) (hcap2 : n2 ≤ cap2) (g bx tp nr md st : Int) (hs : i64 st) :
  Fun Tryz.prog G0 10 #[cfV (.slice (some ⟨100, off, none⟩) n cap) g bx tp nr md, .agg #[.int .i64 st, .slice (some ⟨ks, off2, none⟩) n2 cap2]] (hpL G0 L) (keys L) (.ret (.tuple #[wd (kinW n n2 (cfOk n fm g bx tp nr md) (rightB st fs n2) fm fs), .int .i64 (kinE n n2 (cfOk n fm g bx tp nr md) (rightB st fs n2))]) []) := by
 refine fun_ofL (B := 200) G0F Tryz.func10 rfl Tryz.call10 hT.ok ?_ (flatV_ids (by simp [spV])) (by simp) (by simp) (by simp [Tryz.ntmps10]) (by omega) ?_
 ·simp [idsV, idsA, idsF, ids0, hT.ia, hT.ib, cfV]
 intro C hC hC0 hY
 have hA := hT.a
 have hS := hT.s
 have hne := hT.ne
 have hLow := hT.low
 have hks := hT.k1
 have hks2 := hT.k2
 have hrm := fun ρ => Blk.fx_rn hm.fx ρ
 have hrs := fun ρ => Blk.fx_rn hSb.fx ρ
 have hfit := fits16_L L ks bm bs hT off n cap off2 n2 cap2 fm fs hm hSb g bx tp nr md st
 unfold kinW kinE
 cases hf : fitB n n2 (cfOk n fm g bx tp nr md) (rightB st fs n2) with
 | false =>
  rw [hf] at hfit
  unfold cfV at hfit ⊢
  repeat' (first | refine gwA ?_ | ((first | refine gwR [19] ?_ | refine gwD [19] ?_); intro Q hQ hP; simp [hC, hY, hA, hS, hne, wi_zero]; (repeat ((first | (refine heapK_L hfit hT.ok aMem ?_)); try simp [hC, hY, hA, hS, hne, wi_zero])); refine hQ _ _ _ _ (by kernel_rfl) ?_; clear hQ hP Q) | (refine gwC ?_ ?_ <;> (intro hb; first | (cases hb; done) | skip)))
  refine ⟨.inr rfl, by simp [Tryz.results10, wi_zero], kpT G0F⟩
 | true =>
  rw [hf] at hfit
  obtain ⟨hnn, hok, hrt⟩ := fitB_iff.1 hf
  subst hnn
  have hn4 := (right_n hrt).2.1
  have e0 : sumN (kinF fm fs) 0 = 0 := rfl
  unfold cfV at hfit ⊢
  repeat' (first | refine gwA ?_ | ((first | refine gwR [19] ?_ | refine gwD [19] ?_); intro Q hQ hP; simp [hC, hY, hA, hS, hne, wi_zero]; (repeat ((first | (refine heapK_L hfit hT.ok aMem ?_)); try simp [hC, hY, hA, hS, hne, wi_zero])); refine hQ _ _ _ _ (by kernel_rfl) ?_; clear hQ hP Q) | (refine gwC ?_ ?_ <;> (intro hb; first | (cases hb; done) | skip)))
  refine GW_for n (fun i => rkSt L ks off n cap off2 cap2 g bx tp nr md st (sumN (kinF fm fs) i) i) ?_ ?_ ?_
  ·refine weakLL _ 300 hC G0F hT.ok hT.fx hC0 (by omega) ?_ ?_ aMem
   ·simp [idsV, idsA, idsF, ids0, dom, hA, hS, hne, e0]
   ·simp [cfB, stB', wb, ids_lit, idsF, ids0, dom, hA, hS, hne, wi_zero]
  ·intro i hi
   have hi' : (i : Int) < n := Int.ofNat_lt.2 hi
   have hz : (0 : Int) ≤ i := Int.natCast_nonneg i
   have hs' := nat_succ hi hn4.2
   have hml := hm.at hi
   have hbd := sumN_bd (f := kinF fm fs) (n := i) (lo := 0) (hi := 13194139533312) fun j hj => kinF_bd hok hrt (by omega)
   have hbd1 : sumN (kinF fm fs) i ≤ 4 * 13194139533312 := Int.le_trans hbd.2 (Int.mul_le_mul_of_nonneg_right (by omega) (by omega))
   have hbd0 : 0 ≤ sumN (kinF fm fs) i := by omega
   have v0 := sb_int hSb (u := 3) hi (by omega)
   have v1 := sb_int hSb (u := 4) hi (by omega)
   have v2 := sb_int hSb (u := 5) hi (by omega)
   have y1 : loadK Tryz.prog 3 bs (off2 + i * 6 + 3 + 1) = some (.int .i64 (fs (6 * i + 4))) := v1
   have y2 : loadK Tryz.prog 3 bs (off2 + i * 6 + 3 + 2) = some (.int .i64 (fs (6 * i + 5))) := v2
   obtain ⟨w0, w1, w2⟩ := (right_b hrt hi).2
   have hmi := cfOk_mass hok hi
   obtain ⟨a0, b0, c0, d0⟩ := mv_in hmi w0
   obtain ⟨a1, b1, c1, d1⟩ := mv_in hmi w1
   obtain ⟨a2, b2, c2, d2⟩ := mv_in hmi w2
   have hk3 := kinF_3 (m := fm i) w0 w1 w2
   have es : sumN (kinF fm fs) (i + 1) = sumN (kinF fm fs) i + kinF fm fs i := rfl
   have ek : kinF fm fs i = fm i * dtV (fs (6 * i + 3)) (fs (6 * i + 4)) (fs (6 * i + 5)) (fs (6 * i + 3)) (fs (6 * i + 4)) (fs (6 * i + 5)) := rfl
   have es' : sumN (kinF fm fs) i + fm i * fs (6 * i + 3) * fs (6 * i + 3) + fm i * fs (6 * i + 4) * fs (6 * i + 4) + fm i * fs (6 * i + 5) * fs (6 * i + 5) = sumN (kinF fm fs) (i + 1) := by rw [es, ek, ← hk3]; omega
   have p0 : Int.bmod (sumN (kinF fm fs) i + fm i * fs (6 * i + 3) * fs (6 * i + 3)) 18446744073709551616 = sumN (kinF fm fs) i + fm i * fs (6 * i + 3) * fs (6 * i + 3) := Go.Gy.bm (by omega) (by omega)
   have p1 : Int.bmod (sumN (kinF fm fs) i + fm i * fs (6 * i + 3) * fs (6 * i + 3) + fm i * fs (6 * i + 4) * fs (6 * i + 4)) 18446744073709551616 = sumN (kinF fm fs) i + fm i * fs (6 * i + 3) * fs (6 * i + 3) + fm i * fs (6 * i + 4) * fs (6 * i + 4) := Go.Gy.bm (by omega) (by omega)
   have p2 : Int.bmod (sumN (kinF fm fs) i + fm i * fs (6 * i + 3) * fs (6 * i + 3) + fm i * fs (6 * i + 4) * fs (6 * i + 4) + fm i * fs (6 * i + 5) * fs (6 * i + 5)) 18446744073709551616 = sumN (kinF fm fs) (i + 1) := by rw [← es']; exact Go.Gy.bm (by omega) (by omega)
   clear hbd hbd1 hbd0 es ek hk3 es' c0 c1 c2 d0 d1 d2 hmi w0 w1 w2
   (try dsimp only)
   unfold rkSt cfB stB' wb
   repeat' (first | refine GWL_start ?_ | refine GWL_step ?_ | refine gwA ?_ | ((first | refine gwR [] ?_ | refine gwD [] ?_); intro Q hQ hP; simp [hC, hY, hA, hS, hne, hi', hz, hs', hml, v0, v1, v2, y1, y2, a0, b0, a1, b1, a2, b2, p0, p1, p2, wi_zero]; (first | refine hQ _ _ _ _ (by rcases hT.k8 with h8 | h8 <;> subst h8 <;> kernel_rfl) ?_ | refine hP _ _ (by rcases hT.k8 with h8 | h8 <;> subst h8 <;> kernel_rfl) fun _ => ?_); clear hQ hP Q) | (refine gwC ?_ ?_ <;> (intro hb; first | (cases hb; done) | skip)))
   refine weakLL _ 300 hC G0F hT.ok hT.fx hC0 (by omega) ?_ ?_ aMem
   ·simp [idsV, idsA, idsF, ids0, dom, hA, hS, hne, hs']
   ·simp [cfB, stB', wb, ids_lit, idsF, ids0, dom, hA, hS, hne, wi_zero]
  ·have hb := sumN_bd (f := kinF fm fs) (n := n) (lo := 0) (hi := 13194139533312) fun j hj => kinF_bd hok hrt hj
   have hb1 : sumN (kinF fm fs) n ≤ 4 * 13194139533312 := Int.le_trans hb.2 (Int.mul_le_mul_of_nonneg_right (by omega) (by omega))
   have hb0 : 0 ≤ sumN (kinF fm fs) n := by omega
   have w1 := wr_sz (wr_small hb0 (by omega))
   have w2 : sz 524288 = 524288 := by decide
   have i2 : i64 524288 := by decide
   have i1 : i64 (sumN (kinF fm fs) n) := ⟨by omega, by omega⟩
   have ek : kinV fm fs n = sumN (kinF fm fs) n * 524288 := rfl
   (try dsimp only)
   unfold rkSt cfB stB' wb
   repeat' (first | refine gwA ?_ | ((first | refine gwR [] ?_ | refine gwD [] ?_); intro Q hQ hP; simp [hC, hY, hA, hS, hne, w1, w2, i1, i2, wi_zero]; refine hQ _ _ _ _ (by kernel_rfl) ?_; clear hQ hP Q) | (refine gwC ?_ ?_ <;> (intro hb; first | (cases hb; done) | skip)))
   refine ⟨.inr rfl, by simp [Tryz.results10, ek], kpT G0F⟩
def exF (F : Nat → Nat → Int) (j : Nat) : Int := match (epIx 4)[j]? with
 | some p => F p.1 p.2
 | none => 0
def tri : Nat → Nat
 | 0 => 0
 | i + 1 => tri i + i
theorem ex_at (F : Nat → Nat → Int) {i k : Nat} (hk : k < i) (hi : i < 4) : exF F (tri i + k) = F i k := by
 have : (i = 1 ∧ k = 0) ∨ (i = 2 ∧ k = 0) ∨ (i = 2 ∧ k = 1) ∨ (i = 3 ∧ k = 0) ∨ (i = 3 ∧ k = 1) ∨ (i = 3 ∧ k = 2) := by omega
 rcases this with ⟨rfl, rfl⟩ | ⟨rfl, rfl⟩ | ⟨rfl, rfl⟩ | ⟨rfl, rfl⟩ | ⟨rfl, rfl⟩ | ⟨rfl, rfl⟩ <;> rfl
theorem ex_sum (F : Nat → Nat → Int) {n : Nat} (hn : 1 ≤ n ∧ n ≤ 4) : sumN (exF F) (tri n) = sum2 F n := by
 have e0 : exF F 0 = F 1 0 := rfl
 have e1 : exF F 1 = F 2 0 := rfl
 have e2 : exF F 2 = F 2 1 := rfl
 have e3 : exF F 3 = F 3 0 := rfl
 have e4 : exF F 4 = F 3 1 := rfl
 have e5 : exF F 5 = F 3 2 := rfl
 have : n = 1 ∨ n = 2 ∨ n = 3 ∨ n = 4 := by omega
 rcases this with rfl | rfl | rfl | rfl
 ·show sumN (exF F) 0 = _
  simp only [sumN, sum2]; omega
 ·show sumN (exF F) 1 = _
  simp only [sumN, sum2, e0]; omega
 ·show sumN (exF F) 3 = _
  simp only [sumN, sum2, e0, e1, e2]; omega
 ·show sumN (exF F) 6 = _
  simp only [sumN, sum2, e0, e1, e2, e3, e4, e5]; omega
theorem tri_le {i n : Nat} (h : i ≤ n) (hn : n ≤ 4) : tri i ≤ 6 := by
 have : i = 0 ∨ i = 1 ∨ i = 2 ∨ i = 3 ∨ i = 4 := by omega
 rcases this with rfl | rfl | rfl | rfl | rfl <;> decide
theorem add_le12 {t i k : Nat} (h : t ≤ 6) (hk : k < i) (hi : i < 4) : t + k ≤ 12 := by omega
theorem push_b {t : Nat} (h : t ≤ 12) : (t + 1) * (8 * 4) ≤ 140737488355328 := Nat.le_trans (Nat.mul_le_mul_right _ (Nat.succ_le_succ h)) (by decide)
def loF (g : Int) (fm fs : Nat → Int) (i k : Nat) : Int := enLo g (fm i) (fm k) (d2F fs i k)
def hiF (g : Int) (fm fs : Nat → Int) (i k : Nat) : Int := enHi g (fm i) (fm k) (d2F fs i k)
def poOwn (ks off n cap off2 cap2 : Nat) (g bx tp nr md st : Int) : List (Nat × Blk) := [(200, cfB (.slice (some ⟨100, off, none⟩) n cap) g bx tp nr md), (208, stB' st ks off2 n cap2), (216, spB 0 0)]
def poO (L : List (Nat × Blk)) (ks off n cap off2 cap2 : Nat) (g bx tp nr md st : Int) (i : Nat) (sl sh : Value) (nl nh : List (Nat × Blk)) : GS :=
 ⟨tsL [(2, .pointer (some ⟨200, 0, none⟩)), (3, .pointer (some ⟨208, 0, none⟩)), (4, .pointer (some ⟨216, 0, none⟩)), (5, .int .i64 0), (6, sl), (7, sh), (8, .int .i64 i)], hpL G0 ((poOwn ks off n cap off2 cap2 g bx tp nr md st ++ (nl ++ nh)) ++ L), 400, 0⟩
def poN (L : List (Nat × Blk)) (ks off n cap off2 cap2 : Nat) (g bx tp nr md st : Int) (i k : Nat) (sl sh : Value) (nl nh : List (Nat × Blk)) : GS :=
 ⟨tsL [(2, .pointer (some ⟨200, 0, none⟩)), (3, .pointer (some ⟨208, 0, none⟩)), (4, .pointer (some ⟨216, 0, none⟩)), (5, .int .i64 0), (6, sl), (7, sh), (8, .int .i64 i), (9, .int .i64 k)], hpL G0 ((poOwn ks off n cap off2 cap2 g bx tp nr md st ++ (nl ++ nh)) ++ L), 400, 0⟩
def PoR (t : Nat) (x y : Nat → Int) (sl sh : Value) (nl nh : List (Nat × Blk)) : Prop := (t = 0 ∧ sl = .slice none 0 0 ∧ nl = [] ∧ sh = .slice none 0 0 ∧ nh = []) ∨
 ∃ (c d : Nat) (p q : Nat → Int), 0 < t ∧ t ≤ c ∧ t ≤ d ∧ (∀ j, j < 4 * t → p j = wF x j) ∧ (∀ j, j < 4 * t → q j = wF y j) ∧ sl = .slice (some ⟨224, 0, none⟩) t c ∧ nl = [(224, wRow c p)] ∧ sh = .slice (some ⟨232, 0, none⟩) t d ∧ nh = [(232, wRow d q)]
def poI (L : List (Nat × Blk)) (ks off n cap off2 cap2 : Nat) (g bx tp nr md st : Int) (fm fs : Nat → Int) (m : Nat) (s : GS) : Prop := ∃ i sl sh nl nh, i + m = n ∧ PoR (tri i) (exF (loF g fm fs)) (exF (hiF g fm fs)) sl sh nl nh ∧ (∀ a b, b < a → a < i → ¬ d2F fs a b = 0) ∧ s = poO L ks off n cap off2 cap2 g bx tp nr md st i sl sh nl nh
def poJ (L : List (Nat × Blk)) (ks off n cap off2 cap2 : Nat) (g bx tp nr md st : Int) (fm fs : Nat → Int) (i m : Nat) (s : GS) : Prop := ∃ k sl sh nl nh, k + m = i ∧ PoR (tri i + k) (exF (loF g fm fs)) (exF (hiF g fm fs)) sl sh nl nh ∧ (∀ b, b < k → ¬ d2F fs i b = 0) ∧ s = poN L ks off n cap off2 cap2 g bx tp nr md st i k sl sh nl nh
theorem wF_ex (F : Nat → Nat → Int) {i k u : Nat} (hk : k < i) (hi : i < 4) (hu : u < 4) : wi (F i k) u = wF (exF F) (4 * (tri i + k) + u) := by
 unfold wF
 rw [show (4 * (tri i + k) + u) / 4 = tri i + k by omega, show (4 * (tri i + k) + u) % 4 = u by omega, ex_at F hk hi]
theorem rpair_at {g m w q a b : Int} (h : EIn g m w q) (hq : 0 < q) (e1 : enLo g m w q = a) (e2 : enHi g m w q = b) (K : Value → Prop) : callK Tryz.prog G0 8 #[.int .i64 g, .int .i64 m, .int .i64 w, .int .i64 q] K ↔ K (.tuple #[.int .i64 a, .int .i64 b, .int .i64 0]) := by
 subst e1 e2
 exact callK_iff G0W (by kernel_rfl) (rpair_ok h hq)
theorem rpair_atz {g m w q : Int} (h : EIn g m w q) (hq : q = 0) (K : Value → Prop) : callK Tryz.prog G0 8 #[.int .i64 g, .int .i64 m, .int .i64 w, .int .i64 q] K ↔ K (.tuple #[.int .i64 0, .int .i64 0, .int .i64 30]) := callK_iff G0W (by kernel_rfl) (rpair_z h hq)
theorem d2_in {st : Int} {f : Nat → Int} {n : Nat} (r : rightB st f n = true) {i k : Nat} (hi : i < n) (hk : k < n) : 0 ≤ d2F f i k ∧ d2F f i k ≤ 13194139533312 := by
 rw [← esq_d2 r hi hk]
 exact esq_in r hi hk
theorem ex_in {n : Nat} {fm fs : Nat → Int} {g bx tp nr md st : Int} (c : cfOk n fm g bx tp nr md = true) (r : rightB st fs n = true) (hnz : ∀ a b, b < a → a < n → ¬ d2F fs a b = 0) {j : Nat} (hj : j < tri n) : (0 ≤ exF (loF g fm fs) j ∧ exF (loF g fm fs) j ≤ 1152921504606846976) ∧ (0 ≤ exF (hiF g fm fs) j ∧ exF (hiF g fm fs) j ≤ 1152921504606846976) := by
 have key : ∀ i k, k < i → i < n → (0 ≤ loF g fm fs i k ∧ loF g fm fs i k ≤ 1152921504606846976) ∧ (0 ≤ hiF g fm fs i k ∧ hiF g fm fs i k ≤ 1152921504606846976) := fun i k hk hi => by
  have hg := cfOk_g c
  have hm1 := cfOk_mass c (i := i) hi
  have hm2 := cfOk_mass c (i := k) (by omega)
  have hq := d2_in r hi (show k < n by omega)
  have hz := hnz i k hk hi
  have hE : EIn g (fm i) (fm k) (d2F fs i k) := ⟨hg.1, hg.2, hm1.1, hm1.2, hm2.1, hm2.2, hq.1, hq.2⟩
  have h1 := hE.lo (by omega)
  have h2 := hE.hi (by omega)
  exact ⟨h1, Int.le_trans h1.1 h2.1, h2.2.2⟩
 have hn := (right_n r).2.1
 have : n = 1 ∨ n = 2 ∨ n = 3 ∨ n = 4 := by omega
 have e : ∃ i k, k < i ∧ i < n ∧ j = tri i + k := by
  rcases this with rfl | rfl | rfl | rfl
  ·exact absurd hj (by show ¬ j < 0; omega)
  ·have : j < 1 := hj
   exact ⟨1, 0, by omega, by omega, by show j = 0 + 0; omega⟩
  ·have h3 : j < 3 := hj
   by_cases a : j = 0
   ·exact ⟨1, 0, by omega, by omega, a⟩
   ·exact ⟨2, j - 1, by omega, by omega, by show j = 1 + (j - 1); omega⟩
  ·have h6 : j < 6 := hj
   by_cases a : j = 0
   ·exact ⟨1, 0, by omega, by omega, a⟩
   ·by_cases b : j < 3
    ·exact ⟨2, j - 1, by omega, by omega, by show j = 1 + (j - 1); omega⟩
    ·exact ⟨3, j - 3, by omega, by omega, by show j = 3 + (j - 3); omega⟩
 obtain ⟨i, k, hk, hi, rfl⟩ := e
 rw [ex_at _ hk (by omega), ex_at _ hk (by omega)]
 exact key i k hk hi
theorem rSumN (K : Value → Prop) : callK Tryz.prog G0 40 #[.slice none 0 0] K ↔ K (.tuple #[wd 0, .bool false]) := callK_iff G0W (by kernel_rfl) rSum_nil
theorem lo_i64 {x : Int} (h : 0 ≤ x) (k : x ≤ 1152921504606846976) : i64 x := ⟨by omega, by omega⟩
set_option maxRecDepth 8000 in
set_option maxHeartbeats 16000000 in
theorem rpot_L (L : List (Nat × Blk)) (ks : Nat) (bm bs : Blk) (hT : LTwo G0 L ks bm bs) (off n cap off2 n2 cap2 : Nat) (fm fs : Nat → Int) (hm : MB bm off n fm) (hSb : SB bs off2 n2 fs) (hcap : n ≤ cap) (hcap2 : n2 ≤ cap2) (g bx tp nr md st : Int) (hs : i64 st) :
  Fun Tryz.prog G0 12 #[cfV (.slice (some ⟨100, off, none⟩) n cap) g bx tp nr md, .agg #[.int .i64 st, .slice (some ⟨ks, off2, none⟩) n2 cap2]] (hpL G0 L) (keys L) (.ret (.tuple #[spV (potL n n2 (cfOk n fm g bx tp nr md) (rightB st fs n2) g fm fs) (potH n n2 (cfOk n fm g bx tp nr md) (rightB st fs n2) g fm fs), .int .i64 (potE n n2 (cfOk n fm g bx tp nr md) (rightB st fs n2) fs)]) []) := by
 refine fun_ofL (B := 200) G0F Tryz.func12 rfl Tryz.call12 hT.ok ?_ (flatV_ids (by simp [spV])) (by simp) (by simp) (by simp [Tryz.ntmps12]) (by omega) ?_
 ·simp [idsV, idsA, idsF, ids0, hT.ia, hT.ib, cfV]
 intro C hC hC0 hY
 have hA := hT.a
 have hS := hT.s
 have hne := hT.ne
 have hLow := hT.low
 have hks := hT.k1
 have hks2 := hT.k2
 have hrm := fun ρ => Blk.fx_rn hm.fx ρ
 have hrs := fun ρ => Blk.fx_rn hSb.fx ρ
 have hfit := fits16_L L ks bm bs hT off n cap off2 n2 cap2 fm fs hm hSb g bx tp nr md st
 unfold potL potH potE
 cases hf : fitB n n2 (cfOk n fm g bx tp nr md) (rightB st fs n2) with
 | false =>
  rw [hf] at hfit
  simp only [Bool.false_eq_true, if_false, if_neg (show ¬ (2 : Int) = 0 by decide)]
  unfold cfV at hfit ⊢
  repeat' (first | refine gwA ?_ | ((first | refine gwR [19] ?_ | refine gwD [19] ?_); intro Q hQ hP; simp [hC, hY, hA, hS, hne, wi_zero]; (repeat ((first | (refine heapK_L hfit hT.ok aMem ?_)); try simp [hC, hY, hA, hS, hne, wi_zero])); refine hQ _ _ _ _ (by kernel_rfl) ?_; clear hQ hP Q) | (refine gwC ?_ ?_ <;> (intro hb; first | (cases hb; done) | skip)))
  refine ⟨.inr rfl, by simp [Tryz.results12, spV, wi_zero], kpT G0F⟩
 | true =>
  rw [hf] at hfit
  obtain ⟨hnn, hok, hrt⟩ := fitB_iff.1 hf
  subst hnn
  simp only [if_true]
  have hn4 := (right_n hrt).2.1
  have hg9 := cfOk_g hok
  unfold cfV at hfit ⊢
  repeat' (first | refine gwA ?_ | ((first | refine gwR [19] ?_ | refine gwD [19] ?_); intro Q hQ hP; simp [hC, hY, hA, hS, hne, wi_zero]; (repeat ((first | (refine heapK_L hfit hT.ok aMem ?_)); try simp [hC, hY, hA, hS, hne, wi_zero])); refine hQ _ _ _ _ (by kernel_rfl) ?_; clear hQ hP Q) | (refine gwC ?_ ?_ <;> (intro hb; first | (cases hb; done) | skip)))
  refine GW_loopR (poI L ks off n cap off2 cap2 g bx tp nr md st fm fs) (m0 := n) (s0 := poO L ks off n cap off2 cap2 g bx tp nr md st 0 (.slice none 0 0) (.slice none 0 0) [] []) ?_ ⟨0, _, _, _, _, by omega, .inl ⟨rfl, rfl, rfl, rfl, rfl⟩, fun a b h1 h2 => by omega, rfl⟩ ?_
  ·refine weakLL _ 400 hC G0F hT.ok hT.fx hC0 (by omega) ?_ ?_ aMem
   ·simp [poOwn, idsV, idsA, idsF, ids0, dom, hA, hS, hne]
   ·simp [poOwn, cfB, stB', spB, ids_lit, idsF, ids0, dom, hA, hS, hne, wi_zero]
  rintro m _ ⟨i, sl, sh, nl, nh, him, hV, hnz0, rfl⟩
  by_cases hm0 : m = 0
  ·obtain rfl : i = n := by omega
   have hz : potZ fs i = 0 := by
    rw [(pot_d2 (g := g) (fm := fm) hrt).2.2]
    exact (sum2_zero (fun a b => by by_cases c : d2F fs a b = 0 <;> simp [c]) i).2 fun a b h1 h2 => if_neg (hnz0 a b h1 h2)
   have epl : potLo g fm fs i = sumN (exF (loF g fm fs)) (tri i) := by rw [(pot_d2 hrt).1, ex_sum _ hn4]; rfl
   have eph : potHi g fm fs i = sumN (exF (hiF g fm fs)) (tri i) := by rw [(pot_d2 hrt).2.1, ex_sum _ hn4]; rfl
   rw [if_pos hz, if_pos rfl, if_pos rfl, epl, eph]
   rcases hV with ⟨h0, rfl, rfl, rfl, rfl⟩ | ⟨c, d, p, q, h0, hc, hd, hp9, hq9, rfl, rfl, rfl, rfl⟩
   ·have z1 := rSumN
    rw [h0]
    have e1 : sumN (exF (loF g fm fs)) 0 = 0 := rfl
    have e2 : sumN (exF (hiF g fm fs)) 0 = 0 := rfl
    rw [e1, e2]
    unfold poO poOwn cfB stB' spB
    repeat' (first | refine gwA ?_ | ((first | refine gwR [] ?_ | refine gwD [] ?_); intro Q hQ hP; simp [hC, hY, hA, hS, hne, z1, wi_zero]; refine hQ _ _ _ _ (by kernel_rfl) ?_; clear hQ hP Q) | (refine gwC ?_ ?_ <;> (intro hb; first | (cases hb; done) | skip)))
    refine ⟨.inr rfl, by simp [Tryz.results12, spV, wi_zero], kpT G0F⟩
   ·have t6 := tri_le (Nat.le_refl i) hn4.2
    have hx : ∀ j, j < tri i → 0 ≤ exF (loF g fm fs) j ∧ exF (loF g fm fs) j ≤ 1152921504606846976 := fun j hj => (ex_in hok hrt hnz0 hj).1
    have hy : ∀ j, j < tri i → 0 ≤ exF (hiF g fm fs) j ∧ exF (hiF g fm fs) j ≤ 1152921504606846976 := fun j hj => (ex_in hok hrt hnz0 hj).2
    have hs1 := rSum_fun c (tri i) p (exF (loF g fm fs)) hc (by omega) hp9 hx
    have hs2 := rSum_fun d (tri i) q (exF (hiF g fm fs)) hd (by omega) hq9 hy
    have hr1 := fun ρ => Blk.fx_rn (wRow_fx c p) ρ
    have hr2 := fun ρ => Blk.fx_rn (wRow_fx d q) ρ
    generalize sumN (exF (loF g fm fs)) (tri i) = slo at *
    generalize sumN (exF (hiF g fm fs)) (tri i) = shi at *
    unfold wRow at hr1 hr2 hs1 hs2
    unfold poO poOwn cfB stB' spB wRow
    repeat' (first | refine gwA ?_ | ((first | refine gwR [40] ?_ | refine gwD [40] ?_); intro Q hQ hP; simp [hC, hY, hA, hS, hne, wi_zero]; (repeat ((first | (refine heapK_mv hs1 G0F (B := 200) (wRow_ok c p) (fun k => if k = 100 then 224 else k) (fun k hk => if_neg (by omega)) ?_ (by simp) ?_ (by simp [keys]) (by simp [keys]; rfl) ?_; (focus (simp [ren, renA, renF, ren0]; done)); focus (simp [hr1]; done)) | (refine heapK_mv hs2 G0F (B := 200) (wRow_ok d q) (fun k => if k = 100 then 232 else k) (fun k hk => if_neg (by omega)) ?_ (by simp) ?_ (by simp [keys]) (by simp [keys]; rfl) ?_; (focus (simp [ren, renA, renF, ren0]; done)); focus (simp [hr2]; done))); try simp [hC, hY, hA, hS, hne, wi_zero])); refine hQ _ _ _ _ (by kernel_rfl) ?_; clear hQ hP Q) | (refine gwC ?_ ?_ <;> (intro hb; first | (cases hb; done) | skip)))
    refine ⟨.inr rfl, by simp [Tryz.results12, spV, wi_zero], kpT G0F⟩
  ·have hi : i < n := by omega
   have hi4 : i < 4 := by omega
   have hi' : (i : Int) < n := by omega
   have hz9 : (0 : Int) ≤ i := Int.natCast_nonneg i
   have hs1 := nat_succ hi hn4.2
   have hml := hm.at hi
   have hmi := cfOk_mass hok hi
   have t6 := tri_le (Nat.le_of_lt hi) hn4.2
   unfold poO poOwn cfB stB' spB
   repeat' (first | refine gwA ?_ | ((first | refine gwR [] ?_ | refine gwD [] ?_); intro Q hQ hP; simp [hC, hY, hi']; refine hQ _ _ _ _ (by kernel_rfl) ?_; clear hQ hP Q) | (refine gwC ?_ ?_ <;> (intro hb; first | (cases hb; done) | skip)))
   refine GW_loopR (poJ L ks off n cap off2 cap2 g bx tp nr md st fm fs i) (m0 := i) (s0 := poN L ks off n cap off2 cap2 g bx tp nr md st i 0 sl sh nl nh) ?_ ⟨0, _, _, _, _, by omega, hV, fun b hb9 => by omega, rfl⟩ ?_
   ·rcases hV with ⟨h0, rfl, rfl, rfl, rfl⟩ | ⟨c, d, p, q, h0o, hc, hd, hp9, hq9, rfl, rfl, rfl, rfl⟩
    ·refine weakLL _ 400 hC G0F hT.ok hT.fx hC0 (by omega) ?_ ?_ aMem
     ·simp [poOwn, idsV, idsA, idsF, ids0, dom, hA, hS, hne]
     ·simp [poOwn, cfB, stB', spB, ids_lit, idsF, ids0, dom, hA, hS, hne, wi_zero]
    ·have hf1 := fun D => Blk.fx_ids (wRow_fx c p) D
     have hf2 := fun D => Blk.fx_ids (wRow_fx d q) D
     unfold wRow at hf1 hf2
     refine weakLL _ 400 hC G0F hT.ok hT.fx hC0 (by omega) ?_ ?_ aMem
     ·simp [poOwn, wRow, idsV, idsA, idsF, ids0, dom, hA, hS, hne]
     ·simp [poOwn, wRow, cfB, stB', spB, ids_lit, idsF, ids0, dom, hA, hS, hne, wi_zero, hf1, hf2]
   clear hV
   rintro m2 _ ⟨k, sl, sh, nl, nh, hkm2, hV, hnz, rfl⟩
   have hall : ∀ a b, b < a → a < i + 1 → k = i → ¬ d2F fs a b = 0 := fun a b h1 h2 e => by
    by_cases ea : a = i
    ·rw [ea]; exact hnz b (by omega)
    ·exact hnz0 a b h1 (by omega)
   by_cases hkm : m2 = 0
   ·obtain rfl : k = i := by omega
    unfold poN poOwn cfB stB' spB
    repeat' (first | refine gwA ?_ | ((first | refine gwR [] ?_ | refine gwD [] ?_); intro Q hQ hP; simp [hC, hY, hs1]; refine hQ _ _ _ _ (by kernel_rfl) ?_; clear hQ hP Q) | (refine gwC ?_ ?_ <;> (intro hb; first | (cases hb; done) | skip)))
    refine ⟨fun x => x, poO L ks off n cap off2 cap2 g bx tp nr md st (k + 1) sl sh nl nh, n - (k + 1), ?_, ⟨k + 1, _, _, _, _, by omega, hV, fun a b h1 h2 => hall a b h1 h2 rfl, rfl⟩, by omega⟩
    rcases hV with ⟨h0, rfl, rfl, rfl, rfl⟩ | ⟨c, d, p, q, h0, hc, hd, hp9, hq9, rfl, rfl, rfl, rfl⟩
    ·refine weakRLL (s := GS.mk _ _ _ 0) _ _ 400 hC G0F hT.ok hT.fx hC0 (by omega) ?_ ?_ ?_ ?_ aMem
     ·simp [poOwn, dom, junk, ren, renA, renF, ren0, idsV, idsA, idsF, ids0, hs1, hA, hS, hne]
     ·simp [poOwn, cfB, stB', spB, Blk.rn, renF, ren0, ids_lit, idsF, ids0, dom, hA, hS, hne, wi_zero]
     ·simp [poOwn]
     ·intro x hx; rfl
    ·have hf1 := fun D => Blk.fx_ids (wRow_fx c p) D
     have hf2 := fun D => Blk.fx_ids (wRow_fx d q) D
     have hm1 := fun ρ => fx_map (show Blk.fx ⟨fa (4 * c) .u64 p, .ty 30⟩ from wRow_fx c p) ρ
     have hm2 := fun ρ => fx_map (show Blk.fx ⟨fa (4 * d) .u64 q, .ty 30⟩ from wRow_fx d q) ρ
     unfold wRow at hf1 hf2
     refine weakRLL (s := GS.mk _ _ _ 0) _ _ 400 hC G0F hT.ok hT.fx hC0 (by omega) ?_ ?_ ?_ ?_ aMem
     ·simp [poOwn, wRow, dom, junk, ren, renA, renF, ren0, idsV, idsA, idsF, ids0, hs1, hA, hS, hne]
     ·simp [poOwn, wRow, cfB, stB', spB, Blk.rn, renF, ren0, ids_lit, idsF, ids0, dom, hf1, hf2, hm1, hm2, hA, hS, hne, wi_zero]
     ·simp [poOwn]
     ·intro x hx; rfl
   ·have hki : k < i := by omega
    have hk1 : (k : Int) < i := by omega
    have hk2 : (k : Int) < n := by omega
    have hkz : (0 : Int) ≤ k := Int.natCast_nonneg k
    have hs' := nat_succ hki (show i ≤ 4 by omega)
    have hml2 := hm.at (i := k) (by omega)
    have hsq9 := square_fun bs off2 n cap2 fs hSb st hrt hi (show k < n by omega)
    have hdq := d2_in hrt hi (show k < n by omega)
    have hm2 := cfOk_mass hok (i := k) (by omega)
    have hEI : EIn g (fm i) (fm k) (d2F fs i k) := ⟨hg9.1, hg9.2, hmi.1, hmi.2, hm2.1, hm2.2, hdq.1, hdq.2⟩
    by_cases hd0 : d2F fs i k = 0
    ·have P := rpair_atz hEI hd0
     have hz : ¬ potZ fs n = 0 := fun e => by
      rw [(pot_d2 (g := g) (fm := fm) hrt).2.2] at e
      have := (sum2_zero (Z := fun i k => if d2F fs i k = 0 then 1 else 0) (fun i k => by by_cases c : d2F fs i k = 0 <;> simp [c]) n).1 e i k hki hi
      simp [hd0] at this
     rw [if_neg hz, if_neg (show ¬ (30 : Int) = 0 by decide), if_neg (show ¬ (30 : Int) = 0 by decide)]
     rcases hV with ⟨h0, rfl, rfl, rfl, rfl⟩ | ⟨c, d, p, q, h0, hc, hd, hp9, hq9, rfl, rfl, rfl, rfl⟩
     ·unfold poN poOwn cfB stB' spB
      repeat' (first | refine gwA ?_ | ((first | refine gwR [39] ?_ | refine gwD [39] ?_); intro Q hQ hP; simp [hC, hY, hA, hS, hne, hi', hz9, hk1, hk2, hkz, hml, hml2, P, wi_zero]; (repeat ((first | (refine heapK_mv hsq9 G0F (B := 200) (oneL_ok hSb.fx) (fun k => if k = 100 then ks else k) (fun k hk => if_neg (by omega)) (by simp [ren, renA, renF, ren0]) (by simp) (by simp [hrs, hS, hne, hks]) (by simp [keys]) (by simp [keys]; rfl) ?_)); try simp [hC, hY, hA, hS, hne, hi', hz9, hk1, hk2, hkz, hml, hml2, P, wi_zero])); (first | refine hQ _ _ _ _ (by rcases hT.k8 with h8 | h8 <;> subst h8 <;> kernel_rfl) ?_ | refine hP _ _ (by rcases hT.k8 with h8 | h8 <;> subst h8 <;> kernel_rfl) fun _ => ?_); clear hQ hP Q) | (refine gwC ?_ ?_ <;> (intro hb; first | (cases hb; done) | skip)))
      refine ⟨.inr rfl, by simp [Tryz.results12, spV, wi_zero], kpT G0F⟩
     ·unfold poN poOwn cfB stB' spB wRow
      repeat' (first | refine gwA ?_ | ((first | refine gwR [39] ?_ | refine gwD [39] ?_); intro Q hQ hP; simp [hC, hY, hA, hS, hne, hi', hz9, hk1, hk2, hkz, hml, hml2, P, wi_zero]; (repeat ((first | (refine heapK_mv hsq9 G0F (B := 200) (oneL_ok hSb.fx) (fun k => if k = 100 then ks else k) (fun k hk => if_neg (by omega)) (by simp [ren, renA, renF, ren0]) (by simp) (by simp [hrs, hS, hne, hks]) (by simp [keys]) (by simp [keys]; rfl) ?_)); try simp [hC, hY, hA, hS, hne, hi', hz9, hk1, hk2, hkz, hml, hml2, P, wi_zero])); (first | refine hQ _ _ _ _ (by rcases hT.k8 with h8 | h8 <;> subst h8 <;> kernel_rfl) ?_ | refine hP _ _ (by rcases hT.k8 with h8 | h8 <;> subst h8 <;> kernel_rfl) fun _ => ?_); clear hQ hP Q) | (refine gwC ?_ ?_ <;> (intro hb; first | (cases hb; done) | skip)))
      refine ⟨.inr rfl, by simp [Tryz.results12, spV, wi_zero], kpT G0F⟩
    ·have P := rpair_at hEI (by omega) (show enLo g (fm i) (fm k) (d2F fs i k) = loF g fm fs i k from rfl) (show enHi g (fm i) (fm k) (d2F fs i k) = hiF g fm fs i k from rfl)
     have hlo := hEI.lo (by omega)
     have hhi := hEI.hi (by omega)
     have il : i64 (loF g fm fs i k) := lo_i64 hlo.1 hlo.2
     have ih : i64 (hiF g fm fs i k) := lo_i64 (Int.le_trans hlo.1 hhi.1) hhi.2.2
     clear hlo hhi hdq
     have ht12 := add_le12 t6 hki hi4
     have hb20 := push_b ht12
     have hend : k + 1 + (i - (k + 1)) = i := by omega
     have hdec : i - (k + 1) < m2 := by omega
     have hpos : 0 < tri i + k + 1 := Nat.succ_pos _
     rcases hV with ⟨h0, rfl, rfl, rfl, rfl⟩ | ⟨c, d, p, q, h0, hc, hd, hp9, hq9, rfl, rfl, rfl, rfl⟩
     ·unfold poN poOwn cfB stB' spB
      repeat' (first | refine gwA ?_ | ((first | refine gwR [39] ?_ | refine gwD [39] ?_); intro Q hQ hP; simp [hC, hY, hA, hS, hne, hi', hz9, hk1, hk2, hkz, hml, hml2, P, wi_zero]; (repeat ((first | (refine heapK_mv hsq9 G0F (B := 200) (oneL_ok hSb.fx) (fun k => if k = 100 then ks else k) (fun k hk => if_neg (by omega)) (by simp [ren, renA, renF, ren0]) (by simp) (by simp [hrs, hS, hne, hks]) (by simp [keys]) (by simp [keys]; rfl) ?_)); try simp [hC, hY, hA, hS, hne, hi', hz9, hk1, hk2, hkz, hml, hml2, P, wi_zero])); (first | refine hQ _ _ _ _ (by rcases hT.k8 with h8 | h8 <;> subst h8 <;> kernel_rfl) ?_ | refine hP _ _ (by rcases hT.k8 with h8 | h8 <;> subst h8 <;> kernel_rfl) fun _ => ?_); clear hQ hP Q) | (refine gwC ?_ ?_ <;> (intro hb; first | (cases hb; done) | skip)))
      refine GW_list ?_
      simp only [Array.toList]
      refine GL_walk 4 [] rfl (by simp) (by kernel_rfl) ?_; intro q hq; simp [hC, hY, hA, hS, hne, il, ih, wi_zero]; refine hq _ _ _ _ ?_; clear hq q
      simp only [wT, List.length_cons, List.length_nil, Nat.reduceAdd]
      refine GL_pushK .u64 (m := 4) (i := tri i + k) (j := 656) (by' := 32) (z := .agg #[.int .u64 0, .int .u64 0, .int .u64 0, .int .u64 0]) (T2 := .ty 30) (G := wF (exF (loF g fm fs))) (ev := fun u => wi (loF g fm fs i k) u) rfl (by simp) rfl Tryz.underlying61 (tySize_of Tryz.sizeOf30) (by kernel_rfl) (by kernel_rfl) (by omega) (by simp [Value.cells]) (by simp [Value.cells]) (by omega) (by omega) (.inl ⟨h0, by simp⟩) (by simp) (by simp [fa_4]) (fun u hu => ?_) hb20 ?_
      ·exact wF_ex (loF g fm fs) hki hi4 hu
      rintro k1 c1 g1 hk1 hk11 hc1 hg1
      obtain rfl : k1 = 664 := by
       rcases hk1 with h9 | ⟨c, h9⟩
       ·exact h9
       ·simp at h9
      refine GL_walk 1 [] rfl (by simp) (by kernel_rfl) ?_; intro q hq; simp [hC, hY, putT]; refine hq _ _ _ _ ?_; clear hq q
      simp only [wT, List.length_cons, List.length_nil, Nat.reduceAdd]
      refine GL_nil ?_
      repeat' (first | refine gwA ?_ | ((first | refine gwR [] ?_ | refine gwD [] ?_); intro Q hQ hP; simp [hC, hY, hs']; refine hQ _ _ _ _ (by kernel_rfl) ?_; clear hQ hP Q) | (refine gwC ?_ ?_ <;> (intro hb; first | (cases hb; done) | skip)))
      refine GW_list ?_
      simp only [Array.toList]
      refine GL_walk 4 [] rfl (by simp) (by kernel_rfl) ?_; intro q hq; simp [hC, hY, hA, hS, hne, il, ih, wi_zero]; refine hq _ _ _ _ ?_; clear hq q
      simp only [wT, List.length_cons, List.length_nil, Nat.reduceAdd]
      refine GL_pushK .u64 (m := 4) (i := tri i + k) (j := 704) (by' := 32) (z := .agg #[.int .u64 0, .int .u64 0, .int .u64 0, .int .u64 0]) (T2 := .ty 30) (G := wF (exF (hiF g fm fs))) (ev := fun u => wi (hiF g fm fs i k) u) rfl (by simp) rfl Tryz.underlying61 (tySize_of Tryz.sizeOf30) (by kernel_rfl) (by kernel_rfl) (by omega) (by simp [Value.cells]) (by simp [Value.cells]) (by omega) (by omega) (.inl ⟨h0, by simp⟩) (by simp) (by simp [fa_4]) (fun u hu => ?_) hb20 ?_
      ·exact wF_ex (hiF g fm fs) hki hi4 hu
      rintro k2 c2 g2 hk2 hk21 hc2 hg2
      obtain rfl : k2 = 712 := by
       rcases hk2 with h9 | ⟨c, h9⟩
       ·exact h9
       ·simp at h9
      refine GL_walk 1 [] rfl (by simp) (by kernel_rfl) ?_; intro q hq; simp [hC, hY, putT]; refine hq _ _ _ _ ?_; clear hq q
      simp only [wT, List.length_cons, List.length_nil, Nat.reduceAdd]
      refine GL_nil ?_
      repeat' (first | refine gwA ?_ | ((first | refine gwR [] ?_ | refine gwD [] ?_); intro Q hQ hP; simp [hC, hY, hs']; refine hQ _ _ _ _ (by kernel_rfl) ?_; clear hQ hP Q) | (refine gwC ?_ ?_ <;> (intro hb; first | (cases hb; done) | skip)))
      refine ⟨fun x => if x = 224 then 664 else if x = 232 then 712 else x, poN L ks off n cap off2 cap2 g bx tp nr md st i (k + 1) (.slice (some ⟨224, 0, none⟩) (tri i + k + 1) c1) (.slice (some ⟨232, 0, none⟩) (tri i + k + 1) c2) [(224, wRow c1 g1)] [(232, wRow c2 g2)], i - (k + 1), ?_, ⟨k + 1, _, _, _, _, hend, .inr ⟨c1, c2, g1, g2, hpos, hc1, hc2, hg1, hg2, rfl, rfl, rfl, rfl⟩, fun b hb9 => by
       by_cases e : b = k
       ·rw [e]; exact hd0
       ·exact hnz b (Nat.lt_of_le_of_ne (Nat.le_of_lt_succ hb9) e), rfl⟩, hdec⟩
      have hf1 := fun D => Blk.fx_ids (wRow_fx c1 g1) D
      have hf2 := fun D => Blk.fx_ids (wRow_fx c2 g2) D
      have hm1 := fun ρ => fx_map (show Blk.fx ⟨fa (4 * c1) .u64 g1, .ty 30⟩ from wRow_fx c1 g1) ρ
      have hm2 := fun ρ => fx_map (show Blk.fx ⟨fa (4 * c2) .u64 g2, .ty 30⟩ from wRow_fx c2 g2) ρ
      unfold wRow at hf1 hf2
      refine weakRLL (s := GS.mk _ _ _ 0) _ _ 400 hC G0F hT.ok hT.fx hC0 (by decide) ?_ ?_ ?_ ?_ aMem
      ·simp [poOwn, wRow, dom, junk, ren, renA, renF, ren0, idsV, idsA, idsF, ids0, hs', hA, hS, hne]
      ·simp [poOwn, wRow, cfB, stB', spB, Blk.rn, renF, ren0, ids_lit, idsF, ids0, dom, hf1, hf2, hm1, hm2, hA, hS, hne, wi_zero]
      ·simp [poOwn]
      ·intro x hx; (try dsimp only); rw [if_neg (Nat.ne_of_lt (Nat.lt_trans hx (by decide))), if_neg (Nat.ne_of_lt (Nat.lt_trans hx (by decide)))]
     ·unfold poN poOwn cfB stB' spB wRow
      repeat' (first | refine gwA ?_ | ((first | refine gwR [39] ?_ | refine gwD [39] ?_); intro Q hQ hP; simp [hC, hY, hA, hS, hne, hi', hz9, hk1, hk2, hkz, hml, hml2, P, wi_zero]; (repeat ((first | (refine heapK_mv hsq9 G0F (B := 200) (oneL_ok hSb.fx) (fun k => if k = 100 then ks else k) (fun k hk => if_neg (by omega)) (by simp [ren, renA, renF, ren0]) (by simp) (by simp [hrs, hS, hne, hks]) (by simp [keys]) (by simp [keys]; rfl) ?_)); try simp [hC, hY, hA, hS, hne, hi', hz9, hk1, hk2, hkz, hml, hml2, P, wi_zero])); (first | refine hQ _ _ _ _ (by rcases hT.k8 with h8 | h8 <;> subst h8 <;> kernel_rfl) ?_ | refine hP _ _ (by rcases hT.k8 with h8 | h8 <;> subst h8 <;> kernel_rfl) fun _ => ?_); clear hQ hP Q) | (refine gwC ?_ ?_ <;> (intro hb; first | (cases hb; done) | skip)))
      refine GW_list ?_
      simp only [Array.toList]
      refine GL_walk 4 [] rfl (by simp) (by kernel_rfl) ?_; intro q hq; simp [hC, hY, hA, hS, hne, il, ih, wi_zero]; refine hq _ _ _ _ ?_; clear hq q
      simp only [wT, List.length_cons, List.length_nil, Nat.reduceAdd]
      refine GL_pushK .u64 (m := 4) (i := tri i + k) (j := 656) (by' := 32) (z := .agg #[.int .u64 0, .int .u64 0, .int .u64 0, .int .u64 0]) (T2 := .ty 30) (G := wF (exF (loF g fm fs))) (ev := fun u => wi (loF g fm fs i k) u) rfl (by simp) rfl Tryz.underlying61 (tySize_of Tryz.sizeOf30) (by kernel_rfl) (by kernel_rfl) (by omega) (by simp [Value.cells]) (by simp [Value.cells]) (by omega) (by omega) (.inr ⟨224, c, p, by decide, by simp, by simp, hc, hp9⟩) (by simp) (by simp [fa_4]) (fun u hu => ?_) hb20 ?_
      ·exact wF_ex (loF g fm fs) hki hi4 hu
      rintro k1 c1 g1 hk1 hk11 hc1 hg1
      have hk1' : k1 = 664 ∨ k1 = 224 := by
       rcases hk1 with h9 | ⟨c, h9⟩
       ·exact .inl h9
       ·simp at h9; exact .inr h9.1.symm
      rcases hk1' with rfl | rfl
      ·
       refine GL_walk 1 [] rfl (by simp) (by kernel_rfl) ?_; intro q hq; simp [hC, hY, putT]; refine hq _ _ _ _ ?_; clear hq q
       simp only [wT, List.length_cons, List.length_nil, Nat.reduceAdd]
       refine GL_nil ?_
       repeat' (first | refine gwA ?_ | ((first | refine gwR [] ?_ | refine gwD [] ?_); intro Q hQ hP; simp [hC, hY, hs']; refine hQ _ _ _ _ (by kernel_rfl) ?_; clear hQ hP Q) | (refine gwC ?_ ?_ <;> (intro hb; first | (cases hb; done) | skip)))
       refine GW_list ?_
       simp only [Array.toList]
       refine GL_walk 4 [] rfl (by simp) (by kernel_rfl) ?_; intro q hq; simp [hC, hY, hA, hS, hne, il, ih, wi_zero]; refine hq _ _ _ _ ?_; clear hq q
       simp only [wT, List.length_cons, List.length_nil, Nat.reduceAdd]
       refine GL_pushK .u64 (m := 4) (i := tri i + k) (j := 704) (by' := 32) (z := .agg #[.int .u64 0, .int .u64 0, .int .u64 0, .int .u64 0]) (T2 := .ty 30) (G := wF (exF (hiF g fm fs))) (ev := fun u => wi (hiF g fm fs i k) u) rfl (by simp) rfl Tryz.underlying61 (tySize_of Tryz.sizeOf30) (by kernel_rfl) (by kernel_rfl) (by omega) (by simp [Value.cells]) (by simp [Value.cells]) (by omega) (by omega) (.inr ⟨232, d, q, by decide, by simp, by simp, hd, hq9⟩) (by simp) (by simp [fa_4]) (fun u hu => ?_) hb20 ?_
       ·exact wF_ex (hiF g fm fs) hki hi4 hu
       rintro k2 c2 g2 hk2 hk21 hc2 hg2
       have hk2' : k2 = 712 ∨ k2 = 232 := by
        rcases hk2 with h9 | ⟨c, h9⟩
        ·exact .inl h9
        ·simp at h9; exact .inr h9.1.symm
       rcases hk2' with rfl | rfl
       ·
        refine GL_walk 1 [] rfl (by simp) (by kernel_rfl) ?_; intro q hq; simp [hC, hY, putT]; refine hq _ _ _ _ ?_; clear hq q
        simp only [wT, List.length_cons, List.length_nil, Nat.reduceAdd]
        refine GL_nil ?_
        repeat' (first | refine gwA ?_ | ((first | refine gwR [] ?_ | refine gwD [] ?_); intro Q hQ hP; simp [hC, hY, hs']; refine hQ _ _ _ _ (by kernel_rfl) ?_; clear hQ hP Q) | (refine gwC ?_ ?_ <;> (intro hb; first | (cases hb; done) | skip)))
        refine ⟨fun x => if x = 224 then 664 else if x = 232 then 712 else x, poN L ks off n cap off2 cap2 g bx tp nr md st i (k + 1) (.slice (some ⟨224, 0, none⟩) (tri i + k + 1) c1) (.slice (some ⟨232, 0, none⟩) (tri i + k + 1) c2) [(224, wRow c1 g1)] [(232, wRow c2 g2)], i - (k + 1), ?_, ⟨k + 1, _, _, _, _, hend, .inr ⟨c1, c2, g1, g2, hpos, hc1, hc2, hg1, hg2, rfl, rfl, rfl, rfl⟩, fun b hb9 => by
         by_cases e : b = k
         ·rw [e]; exact hd0
         ·exact hnz b (Nat.lt_of_le_of_ne (Nat.le_of_lt_succ hb9) e), rfl⟩, hdec⟩
        have hf1 := fun D => Blk.fx_ids (wRow_fx c1 g1) D
        have hf2 := fun D => Blk.fx_ids (wRow_fx c2 g2) D
        have hm1 := fun ρ => fx_map (show Blk.fx ⟨fa (4 * c1) .u64 g1, .ty 30⟩ from wRow_fx c1 g1) ρ
        have hm2 := fun ρ => fx_map (show Blk.fx ⟨fa (4 * c2) .u64 g2, .ty 30⟩ from wRow_fx c2 g2) ρ
        unfold wRow at hf1 hf2
        refine weakRLL (s := GS.mk _ _ _ 0) _ _ 400 hC G0F hT.ok hT.fx hC0 (by decide) ?_ ?_ ?_ ?_ aMem
        ·simp [poOwn, wRow, dom, junk, ren, renA, renF, ren0, idsV, idsA, idsF, ids0, hs', hA, hS, hne]
        ·simp [poOwn, wRow, cfB, stB', spB, Blk.rn, renF, ren0, ids_lit, idsF, ids0, dom, hf1, hf2, hm1, hm2, hA, hS, hne, wi_zero]
        ·simp [poOwn]
        ·intro x hx; (try dsimp only); rw [if_neg (Nat.ne_of_lt (Nat.lt_trans hx (by decide))), if_neg (Nat.ne_of_lt (Nat.lt_trans hx (by decide)))]
       ·
        refine GL_walk 1 [] rfl (by simp) (by kernel_rfl) ?_; intro q hq; simp [hC, hY, putT]; refine hq _ _ _ _ ?_; clear hq q
        simp only [wT, List.length_cons, List.length_nil, Nat.reduceAdd]
        refine GL_nil ?_
        repeat' (first | refine gwA ?_ | ((first | refine gwR [] ?_ | refine gwD [] ?_); intro Q hQ hP; simp [hC, hY, hs']; refine hQ _ _ _ _ (by kernel_rfl) ?_; clear hQ hP Q) | (refine gwC ?_ ?_ <;> (intro hb; first | (cases hb; done) | skip)))
        refine ⟨fun x => if x = 224 then 664 else if x = 232 then 232 else x, poN L ks off n cap off2 cap2 g bx tp nr md st i (k + 1) (.slice (some ⟨224, 0, none⟩) (tri i + k + 1) c1) (.slice (some ⟨232, 0, none⟩) (tri i + k + 1) c2) [(224, wRow c1 g1)] [(232, wRow c2 g2)], i - (k + 1), ?_, ⟨k + 1, _, _, _, _, hend, .inr ⟨c1, c2, g1, g2, hpos, hc1, hc2, hg1, hg2, rfl, rfl, rfl, rfl⟩, fun b hb9 => by
         by_cases e : b = k
         ·rw [e]; exact hd0
         ·exact hnz b (Nat.lt_of_le_of_ne (Nat.le_of_lt_succ hb9) e), rfl⟩, hdec⟩
        have hf1 := fun D => Blk.fx_ids (wRow_fx c1 g1) D
        have hf2 := fun D => Blk.fx_ids (wRow_fx c2 g2) D
        have hm1 := fun ρ => fx_map (show Blk.fx ⟨fa (4 * c1) .u64 g1, .ty 30⟩ from wRow_fx c1 g1) ρ
        have hm2 := fun ρ => fx_map (show Blk.fx ⟨fa (4 * c2) .u64 g2, .ty 30⟩ from wRow_fx c2 g2) ρ
        unfold wRow at hf1 hf2
        refine weakRLL (s := GS.mk _ _ _ 0) _ _ 400 hC G0F hT.ok hT.fx hC0 (by decide) ?_ ?_ ?_ ?_ aMem
        ·simp [poOwn, wRow, dom, junk, ren, renA, renF, ren0, idsV, idsA, idsF, ids0, hs', hA, hS, hne]
        ·simp [poOwn, wRow, cfB, stB', spB, Blk.rn, renF, ren0, ids_lit, idsF, ids0, dom, hf1, hf2, hm1, hm2, hA, hS, hne, wi_zero]
        ·simp [poOwn]
        ·intro x hx; (try dsimp only); rw [if_neg (Nat.ne_of_lt (Nat.lt_trans hx (by decide))), if_neg (Nat.ne_of_lt (Nat.lt_trans hx (by decide)))]
      ·
       refine GL_walk 1 [] rfl (by simp) (by kernel_rfl) ?_; intro q hq; simp [hC, hY, putT]; refine hq _ _ _ _ ?_; clear hq q
       simp only [wT, List.length_cons, List.length_nil, Nat.reduceAdd]
       refine GL_nil ?_
       repeat' (first | refine gwA ?_ | ((first | refine gwR [] ?_ | refine gwD [] ?_); intro Q hQ hP; simp [hC, hY, hs']; refine hQ _ _ _ _ (by kernel_rfl) ?_; clear hQ hP Q) | (refine gwC ?_ ?_ <;> (intro hb; first | (cases hb; done) | skip)))
       refine GW_list ?_
       simp only [Array.toList]
       refine GL_walk 4 [] rfl (by simp) (by kernel_rfl) ?_; intro q hq; simp [hC, hY, hA, hS, hne, il, ih, wi_zero]; refine hq _ _ _ _ ?_; clear hq q
       simp only [wT, List.length_cons, List.length_nil, Nat.reduceAdd]
       refine GL_pushK .u64 (m := 4) (i := tri i + k) (j := 704) (by' := 32) (z := .agg #[.int .u64 0, .int .u64 0, .int .u64 0, .int .u64 0]) (T2 := .ty 30) (G := wF (exF (hiF g fm fs))) (ev := fun u => wi (hiF g fm fs i k) u) rfl (by simp) rfl Tryz.underlying61 (tySize_of Tryz.sizeOf30) (by kernel_rfl) (by kernel_rfl) (by omega) (by simp [Value.cells]) (by simp [Value.cells]) (by omega) (by omega) (.inr ⟨232, d, q, by decide, by simp, by simp, hd, hq9⟩) (by simp) (by simp [fa_4]) (fun u hu => ?_) hb20 ?_
       ·exact wF_ex (hiF g fm fs) hki hi4 hu
       rintro k2 c2 g2 hk2 hk21 hc2 hg2
       have hk2' : k2 = 712 ∨ k2 = 232 := by
        rcases hk2 with h9 | ⟨c, h9⟩
        ·exact .inl h9
        ·simp at h9; exact .inr h9.1.symm
       rcases hk2' with rfl | rfl
       ·
        refine GL_walk 1 [] rfl (by simp) (by kernel_rfl) ?_; intro q hq; simp [hC, hY, putT]; refine hq _ _ _ _ ?_; clear hq q
        simp only [wT, List.length_cons, List.length_nil, Nat.reduceAdd]
        refine GL_nil ?_
        repeat' (first | refine gwA ?_ | ((first | refine gwR [] ?_ | refine gwD [] ?_); intro Q hQ hP; simp [hC, hY, hs']; refine hQ _ _ _ _ (by kernel_rfl) ?_; clear hQ hP Q) | (refine gwC ?_ ?_ <;> (intro hb; first | (cases hb; done) | skip)))
        refine ⟨fun x => if x = 224 then 224 else if x = 232 then 712 else x, poN L ks off n cap off2 cap2 g bx tp nr md st i (k + 1) (.slice (some ⟨224, 0, none⟩) (tri i + k + 1) c1) (.slice (some ⟨232, 0, none⟩) (tri i + k + 1) c2) [(224, wRow c1 g1)] [(232, wRow c2 g2)], i - (k + 1), ?_, ⟨k + 1, _, _, _, _, hend, .inr ⟨c1, c2, g1, g2, hpos, hc1, hc2, hg1, hg2, rfl, rfl, rfl, rfl⟩, fun b hb9 => by
         by_cases e : b = k
         ·rw [e]; exact hd0
         ·exact hnz b (Nat.lt_of_le_of_ne (Nat.le_of_lt_succ hb9) e), rfl⟩, hdec⟩
        have hf1 := fun D => Blk.fx_ids (wRow_fx c1 g1) D
        have hf2 := fun D => Blk.fx_ids (wRow_fx c2 g2) D
        have hm1 := fun ρ => fx_map (show Blk.fx ⟨fa (4 * c1) .u64 g1, .ty 30⟩ from wRow_fx c1 g1) ρ
        have hm2 := fun ρ => fx_map (show Blk.fx ⟨fa (4 * c2) .u64 g2, .ty 30⟩ from wRow_fx c2 g2) ρ
        unfold wRow at hf1 hf2
        refine weakRLL (s := GS.mk _ _ _ 0) _ _ 400 hC G0F hT.ok hT.fx hC0 (by decide) ?_ ?_ ?_ ?_ aMem
        ·simp [poOwn, wRow, dom, junk, ren, renA, renF, ren0, idsV, idsA, idsF, ids0, hs', hA, hS, hne]
        ·simp [poOwn, wRow, cfB, stB', spB, Blk.rn, renF, ren0, ids_lit, idsF, ids0, dom, hf1, hf2, hm1, hm2, hA, hS, hne, wi_zero]
        ·simp [poOwn]
        ·intro x hx; (try dsimp only); rw [if_neg (Nat.ne_of_lt (Nat.lt_trans hx (by decide))), if_neg (Nat.ne_of_lt (Nat.lt_trans hx (by decide)))]
       ·
        refine GL_walk 1 [] rfl (by simp) (by kernel_rfl) ?_; intro q hq; simp [hC, hY, putT]; refine hq _ _ _ _ ?_; clear hq q
        simp only [wT, List.length_cons, List.length_nil, Nat.reduceAdd]
        refine GL_nil ?_
        repeat' (first | refine gwA ?_ | ((first | refine gwR [] ?_ | refine gwD [] ?_); intro Q hQ hP; simp [hC, hY, hs']; refine hQ _ _ _ _ (by kernel_rfl) ?_; clear hQ hP Q) | (refine gwC ?_ ?_ <;> (intro hb; first | (cases hb; done) | skip)))
        refine ⟨fun x => if x = 224 then 224 else if x = 232 then 232 else x, poN L ks off n cap off2 cap2 g bx tp nr md st i (k + 1) (.slice (some ⟨224, 0, none⟩) (tri i + k + 1) c1) (.slice (some ⟨232, 0, none⟩) (tri i + k + 1) c2) [(224, wRow c1 g1)] [(232, wRow c2 g2)], i - (k + 1), ?_, ⟨k + 1, _, _, _, _, hend, .inr ⟨c1, c2, g1, g2, hpos, hc1, hc2, hg1, hg2, rfl, rfl, rfl, rfl⟩, fun b hb9 => by
         by_cases e : b = k
         ·rw [e]; exact hd0
         ·exact hnz b (Nat.lt_of_le_of_ne (Nat.le_of_lt_succ hb9) e), rfl⟩, hdec⟩
        have hf1 := fun D => Blk.fx_ids (wRow_fx c1 g1) D
        have hf2 := fun D => Blk.fx_ids (wRow_fx c2 g2) D
        have hm1 := fun ρ => fx_map (show Blk.fx ⟨fa (4 * c1) .u64 g1, .ty 30⟩ from wRow_fx c1 g1) ρ
        have hm2 := fun ρ => fx_map (show Blk.fx ⟨fa (4 * c2) .u64 g2, .ty 30⟩ from wRow_fx c2 g2) ρ
        unfold wRow at hf1 hf2
        refine weakRLL (s := GS.mk _ _ _ 0) _ _ 400 hC G0F hT.ok hT.fx hC0 (by decide) ?_ ?_ ?_ ?_ aMem
        ·simp [poOwn, wRow, dom, junk, ren, renA, renF, ren0, idsV, idsA, idsF, ids0, hs', hA, hS, hne]
        ·simp [poOwn, wRow, cfB, stB', spB, Blk.rn, renF, ren0, ids_lit, idsF, ids0, dom, hf1, hf2, hm1, hm2, hA, hS, hne, wi_zero]
        ·simp [poOwn]
        ·intro x hx; (try dsimp only); rw [if_neg (Nat.ne_of_lt (Nat.lt_trans hx (by decide))), if_neg (Nat.ne_of_lt (Nat.lt_trans hx (by decide)))]
theorem great_00 (g bx tp nr md st : Int) : Ret Tryz.prog G0 5 #[.agg #[.slice none 0 0, .int .i64 g, .int .i64 bx, .int .i64 tp, .int .i64 nr, .int .i64 md], .agg #[.int .i64 st, .slice none 0 0]] (.bool false) := by
 refine ret_of G0F Tryz.func5 rfl Tryz.call5 (by simp) (by simp) (by simp [Tryz.ntmps5]) ?_
 intro C hC hC0 hY
 repeat' (first | refine gwA ?_ | ((first | refine gwR [] ?_ | refine gwD [] ?_); intro Q hQ hP; simp [hC, hY]; refine hQ _ _ _ _ (by kernel_rfl) ?_; clear hQ hP Q) | (refine gwC ?_ ?_ <;> (intro hb; first | (cases hb; done) | skip)))
 refine ⟨.inr trivial, ?_⟩
 simp [Tryz.results5]
theorem great00K (g bx tp nr md st : Int) (K : Value → Prop) : callK Tryz.prog G0 5 #[.agg #[.slice none 0 0, .int .i64 g, .int .i64 bx, .int .i64 tp, .int .i64 nr, .int .i64 md], .agg #[.int .i64 st, .slice none 0 0]] K ↔ K (.bool false) := callK_iff G0W (by kernel_rfl) (great_00 g bx tp nr md st)
theorem fits_00 (g bx tp nr md st : Int) : Ret Tryz.prog G0 19 #[.agg #[.slice none 0 0, .int .i64 g, .int .i64 bx, .int .i64 tp, .int .i64 nr, .int .i64 md], .agg #[.int .i64 st, .slice none 0 0]] (.bool false) := by
 refine ret_of G0F Tryz.func19 rfl Tryz.call19 (by simp) (by simp) (by simp [Tryz.ntmps19]) ?_
 intro C hC hC0 hY
 repeat' (first | refine gwA ?_ | ((first | refine gwR [] ?_ | refine gwD [] ?_); intro Q hQ hP; simp [hC, hY]; refine hQ _ _ _ _ (by kernel_rfl) ?_; clear hQ hP Q) | (refine gwC ?_ ?_ <;> (intro hb; first | (cases hb; done) | skip)))
 refine ⟨.inr trivial, ?_⟩
 simp [Tryz.results19]
theorem fits00K (g bx tp nr md st : Int) (K : Value → Prop) : callK Tryz.prog G0 19 #[.agg #[.slice none 0 0, .int .i64 g, .int .i64 bx, .int .i64 tp, .int .i64 nr, .int .i64 md], .agg #[.int .i64 st, .slice none 0 0]] K ↔ K (.bool false) := callK_iff G0W (by kernel_rfl) (fits_00 g bx tp nr md st)
theorem great_0s (b : Blk) (off n cap : Nat) (f : Nat → Int) (h : SB b off n f) (g bx tp nr md st : Int) : Fun Tryz.prog G0 5 #[.agg #[.slice none 0 0, .int .i64 g, .int .i64 bx, .int .i64 tp, .int .i64 nr, .int .i64 md], .agg #[.int .i64 st, .slice (some ⟨100, off, none⟩) n cap]] (hpL G0 [(100, b)]) (keys [(100, b)]) (.ret (.bool (decide (9 < n))) []) := by
 refine fun_ofL (B := 200) G0F Tryz.func5 rfl Tryz.call5 (oneL_ok h.fx) ?_ (by simp) (by simp) (by simp) (by simp [Tryz.ntmps5]) (by omega) ?_
 ·simp [idsV, idsA, idsF, ids0, keys]
 intro C hC hC0 hY
 have hr := fun ρ => Blk.fx_rn h.fx ρ
 by_cases h1 : 9 < n
 ·have h1' : (9 : Int) < (n : Int) := by omega
  rw [decide_eq_true h1]
  repeat' (first | refine gwA ?_ | ((first | refine gwR [] ?_ | refine gwD [] ?_); intro Q hQ hP; simp [hC, hY, h1']; refine hQ _ _ _ _ (by kernel_rfl) ?_; clear hQ hP Q) | (refine gwC ?_ ?_ <;> (intro hb; first | (cases hb; done) | skip)))
  refine ⟨.inr rfl, by simp [Tryz.results5], kpS G0F⟩
 ·have h1' : ¬ (9 : Int) < (n : Int) := by omega
  rw [decide_eq_false h1]
  repeat' (first | refine gwA ?_ | ((first | refine gwR [] ?_ | refine gwD [] ?_); intro Q hQ hP; simp [hC, hY, h1']; refine hQ _ _ _ _ (by kernel_rfl) ?_; clear hQ hP Q) | (refine gwC ?_ ?_ <;> (intro hb; first | (cases hb; done) | skip)))
  refine ⟨.inr rfl, by simp [Tryz.results5], kpS G0F⟩
theorem great_s0 (b : Blk) (off n cap : Nat) (f : Nat → Int) (h : MB b off n f) (g bx tp nr md st : Int) : Fun Tryz.prog G0 5 #[.agg #[.slice (some ⟨100, off, none⟩) n cap, .int .i64 g, .int .i64 bx, .int .i64 tp, .int .i64 nr, .int .i64 md], .agg #[.int .i64 st, .slice none 0 0]] (hpL G0 [(100, b)]) (keys [(100, b)]) (.ret (.bool (decide (9 < n))) []) := by
 refine fun_ofL (B := 200) G0F Tryz.func5 rfl Tryz.call5 (oneL_ok h.fx) ?_ (by simp) (by simp) (by simp) (by simp [Tryz.ntmps5]) (by omega) ?_
 ·simp [idsV, idsA, idsF, ids0, keys]
 intro C hC hC0 hY
 have hr := fun ρ => Blk.fx_rn h.fx ρ
 by_cases h1 : 9 < n
 ·have h1' : (9 : Int) < (n : Int) := by omega
  rw [decide_eq_true h1]
  repeat' (first | refine gwA ?_ | ((first | refine gwR [] ?_ | refine gwD [] ?_); intro Q hQ hP; simp [hC, hY, h1']; refine hQ _ _ _ _ (by kernel_rfl) ?_; clear hQ hP Q) | (refine gwC ?_ ?_ <;> (intro hb; first | (cases hb; done) | skip)))
  refine ⟨.inr rfl, by simp [Tryz.results5], kpS G0F⟩
 ·have h1' : ¬ (9 : Int) < (n : Int) := by omega
  rw [decide_eq_false h1]
  repeat' (first | refine gwA ?_ | ((first | refine gwR [] ?_ | refine gwD [] ?_); intro Q hQ hP; simp [hC, hY, h1']; refine hQ _ _ _ _ (by kernel_rfl) ?_; clear hQ hP Q) | (refine gwC ?_ ?_ <;> (intro hb; first | (cases hb; done) | skip)))
  refine ⟨.inr rfl, by simp [Tryz.results5], kpS G0F⟩
theorem fits_0s (b : Blk) (off n cap : Nat) (f : Nat → Int) (h : SB b off n f) (g bx tp nr md st : Int) : Fun Tryz.prog G0 19 #[.agg #[.slice none 0 0, .int .i64 g, .int .i64 bx, .int .i64 tp, .int .i64 nr, .int .i64 md], .agg #[.int .i64 st, .slice (some ⟨100, off, none⟩) n cap]] (hpL G0 [(100, b)]) (keys [(100, b)]) (.ret (.bool false) []) := by
 refine fun_ofL (B := 200) G0F Tryz.func19 rfl Tryz.call19 (oneL_ok h.fx) ?_ (by simp) (by simp) (by simp) (by simp [Tryz.ntmps19]) (by omega) ?_
 ·simp [idsV, idsA, idsF, ids0, keys]
 intro C hC hC0 hY
 have hr := fun ρ => Blk.fx_rn h.fx ρ
 repeat' (first | refine gwA ?_ | ((first | refine gwR [] ?_ | refine gwD [] ?_); intro Q hQ hP; simp [hC, hY]; refine hQ _ _ _ _ (by kernel_rfl) ?_; clear hQ hP Q) | (refine gwC ?_ ?_ <;> (intro hb; first | (cases hb; done) | skip)))
 refine ⟨.inr rfl, by simp [Tryz.results19], kpS G0F⟩
theorem fits_s0 (b : Blk) (off n cap : Nat) (f : Nat → Int) (h : MB b off n f) (g bx tp nr md st : Int) : Fun Tryz.prog G0 19 #[.agg #[.slice (some ⟨100, off, none⟩) n cap, .int .i64 g, .int .i64 bx, .int .i64 tp, .int .i64 nr, .int .i64 md], .agg #[.int .i64 st, .slice none 0 0]] (hpL G0 [(100, b)]) (keys [(100, b)]) (.ret (.bool false) []) := by
 refine fun_ofL (B := 200) G0F Tryz.func19 rfl Tryz.call19 (oneL_ok h.fx) ?_ (by simp) (by simp) (by simp) (by simp [Tryz.ntmps19]) (by omega) ?_
 ·simp [idsV, idsA, idsF, ids0, keys]
 intro C hC hC0 hY
 have hr := fun ρ => Blk.fx_rn h.fx ρ
 have hck := chk11_fun b off n cap f h g bx tp nr md
 unfold cfV at hck
 cases ok : cfOk n f g bx tp nr md with
 | false =>
  rw [ok] at hck
  simp only [Bool.false_eq_true, if_false] at hck
  repeat' (first | refine gwA ?_ | ((first | refine gwR [46] ?_ | refine gwD [46] ?_); intro Q hQ hP; simp [hC, hY]; (repeat ((first | (refine heapK_mv hck G0F (B := 200) (oneL_ok h.fx) (fun k => k) (fun k hk => rfl) (by simp [ren, renA, renF, ren0, cfV]) (by simp) (by simp [hr]) (by simp [keys]) (by simp [keys]; rfl) ?_)); try simp [hC, hY])); refine hQ _ _ _ _ (by kernel_rfl) ?_; clear hQ hP Q) | (refine gwC ?_ ?_ <;> (intro hb; first | (cases hb; done) | skip)))
  refine ⟨.inr rfl, by simp [Tryz.results19], kpS G0F⟩
 | true =>
  rw [ok] at hck
  simp only [if_true] at hck
  repeat' (first | refine gwA ?_ | ((first | refine gwR [46] ?_ | refine gwD [46] ?_); intro Q hQ hP; simp [hC, hY]; (repeat ((first | (refine heapK_mv hck G0F (B := 200) (oneL_ok h.fx) (fun k => k) (fun k hk => rfl) (by simp [ren, renA, renF, ren0, cfV]) (by simp) (by simp [hr]) (by simp [keys]) (by simp [keys]; rfl) ?_)); try simp [hC, hY])); refine hQ _ _ _ _ (by kernel_rfl) ?_; clear hQ hP Q) | (refine gwC ?_ ?_ <;> (intro hb; first | (cases hb; done) | skip)))
  refine ⟨.inr rfl, by simp [Tryz.results19], kpS G0F⟩
set_option maxRecDepth 8000 in
set_option maxHeartbeats 4000000 in
theorem rEnergy_err (E : Int) (hE : ¬ E = 0) (L : List (Nat × Blk)) (ks : Nat) (bm bs : Blk) (hT : LTwo G0 L ks bm bs) (off n cap off2 n2 cap2 : Nat) (g bx tp nr md st : Int)
  (hpo : Fun Tryz.prog G0 12 #[cfV (.slice (some ⟨100, off, none⟩) n cap) g bx tp nr md, .agg #[.int .i64 st, .slice (some ⟨ks, off2, none⟩) n2 cap2]] (hpL G0 L) (keys L) (.ret (.tuple #[spV 0 0, .int .i64 E]) [])) :
  Fun Tryz.prog G0 14 #[cfV (.slice (some ⟨100, off, none⟩) n cap) g bx tp nr md, .agg #[.int .i64 st, .slice (some ⟨ks, off2, none⟩) n2 cap2]] (hpL G0 L) (keys L) (.ret (.tuple #[spV 0 0, .int .i64 E]) []) := by
 refine fun_ofL (B := 200) G0F Tryz.func14 rfl Tryz.call14 hT.ok ?_ (flatV_ids (by simp [spV])) (by simp) (by simp) (by simp [Tryz.ntmps14]) (by omega) ?_
 ·simp [idsV, idsA, idsF, ids0, hT.ia, hT.ib, cfV]
 intro C hC hC0 hY
 have hA := hT.a
 have hS := hT.s
 have hne := hT.ne
 have hLow := hT.low
 have hEb : (E != 0) = true := by simpa using hE
 have hEq : (E == 0) = false := by simpa using hE
 unfold cfV spV at hpo
 unfold cfV
 repeat' (first | refine gwA ?_ | ((first | refine gwR [12] ?_ | refine gwD [12] ?_); intro Q hQ hP; simp [hC, hY, hA, hS, hne, wi_zero, hE, hEb, hEq]; (repeat ((first | (refine heapK_L hpo hT.ok aMem ?_)); try simp [hC, hY, hA, hS, hne, wi_zero, hE, hEb, hEq])); refine hQ _ _ _ _ (by kernel_rfl) ?_; clear hQ hP Q) | (refine gwC ?_ ?_ <;> (intro hb; first | (cases hb; done) | skip)))
 refine ⟨.inr rfl, by simp [Tryz.results14, spV, wi_zero], kpT G0F⟩
set_option maxRecDepth 8000 in
set_option maxHeartbeats 4000000 in
theorem rEnergy_L (L : List (Nat × Blk)) (ks : Nat) (bm bs : Blk) (hT : LTwo G0 L ks bm bs) (off n cap off2 n2 cap2 : Nat) (fm fs : Nat → Int) (hm : MB bm off n fm) (hSb : SB bs off2 n2 fs) (hcap : n ≤ cap) (hcap2 : n2 ≤ cap2) (g bx tp nr md st : Int) (hs : i64 st) :
  Fun Tryz.prog G0 14 #[cfV (.slice (some ⟨100, off, none⟩) n cap) g bx tp nr md, .agg #[.int .i64 st, .slice (some ⟨ks, off2, none⟩) n2 cap2]] (hpL G0 L) (keys L) (.ret (enV n n2 fm fs g bx tp nr md st) []) := by
 have hpo := rpot_L L ks bm bs hT off n cap off2 n2 cap2 fm fs hm hSb hcap hcap2 g bx tp nr md st hs
 have hki := rkin_L L ks bm bs hT off n cap off2 n2 cap2 fm fs hm hSb hcap hcap2 g bx tp nr md st hs
 unfold potL potH at hpo
 unfold enV eLo eHi enE
 unfold kinW kinE at hki
 by_cases hE : potE n n2 (cfOk n fm g bx tp nr md) (rightB st fs n2) fs = 0
 ·have hf : fitB n n2 (cfOk n fm g bx tp nr md) (rightB st fs n2) = true := by
   unfold potE at hE
   cases hf : fitB n n2 (cfOk n fm g bx tp nr md) (rightB st fs n2) with
   | true => rfl
   | false => rw [hf] at hE; simp at hE
  rw [if_pos hf, if_pos hf] at hki
  rw [hE, if_pos rfl, if_pos rfl] at hpo ⊢
  generalize kinV fm fs n2 = T at *
  generalize potLo g fm fs n2 = lo at *
  generalize potHi g fm fs n2 = hi at *
  clear hE hf
  refine fun_ofL (B := 200) G0F Tryz.func14 rfl Tryz.call14 hT.ok ?_ (flatV_ids (by simp [spV])) (by simp) (by simp) (by simp [Tryz.ntmps14]) (by omega) ?_
  ·simp [idsV, idsA, idsF, ids0, hT.ia, hT.ib, cfV]
  intro C hC hC0 hY
  have hA := hT.a
  have hS := hT.s
  have hne := hT.ne
  have hLow := hT.low
  unfold cfV spV at hpo
  unfold cfV at hki ⊢
  repeat' (first | refine gwA ?_ | ((first | refine gwR [12, 10] ?_ | refine gwD [12, 10] ?_); intro Q hQ hP; simp [hC, hY, hA, hS, hne, wi_zero]; (repeat ((first | (refine heapK_L hpo hT.ok aMem ?_) | (refine heapK_L hki hT.ok aMem ?_)); try simp [hC, hY, hA, hS, hne, wi_zero])); refine hQ _ _ _ _ (by kernel_rfl) ?_; clear hQ hP Q) | (refine gwC ?_ ?_ <;> (intro hb; first | (cases hb; done) | skip)))
  refine ⟨.inr rfl, by simp [Tryz.results14, spV, wi_zero], kpT G0F⟩
 ·rw [if_neg hE, if_neg hE] at hpo ⊢
  exact rEnergy_err _ hE L ks bm bs hT off n cap off2 n2 cap2 g bx tp nr md st hpo
theorem kfits_00 (g bx tp nr md st : Int) : Fun Tryz.prog G0 34 #[.agg #[.slice none 0 0, .int .i64 g, .int .i64 bx, .int .i64 tp, .int .i64 nr, .int .i64 md], .agg #[.int .i64 st, .slice none 0 0]] (hpL G0 []) (keys []) (.ret (.bool false) []) := by
 refine fun_ofL (B := 200) G0F Tryz.func34 rfl Tryz.call34 nilL_ok ?_ (flatV_ids (by simp [spV])) (by simp) (by simp) (by simp [Tryz.ntmps34]) (by omega) ?_
 ·simp [idsV, idsA, idsF, ids0, keys]
 intro C hC hC0 hY
 have hfx : Blk.fx (⟨#[.slice none 0 0, .int .i64 g, .int .i64 bx, .int .i64 tp, .int .i64 nr, .int .i64 md], .ty 24⟩ : Blk) := fun x hx => by
  simp at hx
  rcases hx with rfl | rfl | rfl | rfl | rfl | rfl <;> rfl
 have hck := check0_fun (⟨#[.slice none 0 0, .int .i64 g, .int .i64 bx, .int .i64 tp, .int .i64 nr, .int .i64 md], .ty 24⟩ : Blk) hfx g bx tp nr md
 have hbr := fun ρ => Blk.fx_rn hfx ρ
 unfold cfV at hck
 repeat' (first | refine gwA ?_ | ((first | refine gwR [65] ?_ | refine gwD [65] ?_); intro Q hQ hP; simp [hC, hY]; (repeat ((first | (refine heapK_mv hck G0F (B := 200) (oneL_ok hfx) (fun k => if k = 100 then 200 else k) (fun k hk => if_neg (by omega)) (by simp [ren, renA, renF, ren0, cfV]) (by simp) (by simp [hbr]) (by simp [keys]) (by simp [keys]; try rfl) ?_)); try simp [hC, hY])); refine hQ _ _ _ _ (by kernel_rfl) ?_; clear hQ hP Q) | (refine gwC ?_ ?_ <;> (intro hb; first | (cases hb; done) | skip)))
 refine ⟨.inr rfl, by simp [Tryz.results34, spV, wi_zero], kpS G0F⟩
theorem kfits_0s (b : Blk) (off n cap : Nat) (f : Nat → Int) (h : SB b off n f) (g bx tp nr md st : Int) : Fun Tryz.prog G0 34 #[.agg #[.slice none 0 0, .int .i64 g, .int .i64 bx, .int .i64 tp, .int .i64 nr, .int .i64 md], .agg #[.int .i64 st, .slice (some ⟨100, off, none⟩) n cap]] (hpL G0 [(100, b)]) (keys [(100, b)]) (.ret (.bool false) []) := by
 refine fun_ofL (B := 200) G0F Tryz.func34 rfl Tryz.call34 (oneL_ok h.fx) ?_ (flatV_ids (by simp [spV])) (by simp) (by simp) (by simp [Tryz.ntmps34]) (by omega) ?_
 ·simp [idsV, idsA, idsF, ids0, keys]
 intro C hC hC0 hY
 have hr := fun ρ => Blk.fx_rn h.fx ρ
 have hck := check0_fun b h.fx g bx tp nr md
 unfold cfV at hck
 by_cases h0 : n = 0
 ·subst h0
  repeat' (first | refine gwA ?_ | ((first | refine gwR [65] ?_ | refine gwD [65] ?_); intro Q hQ hP; simp [hC, hY]; (repeat ((first | (refine heapK_mv hck G0F (B := 200) (oneL_ok h.fx) (fun k => k) (fun k hk => rfl) (by simp [ren, renA, renF, ren0, cfV]) (by simp) (by simp [hr]) (by simp [keys]) (by simp [keys]; try rfl) ?_)); try simp [hC, hY])); refine hQ _ _ _ _ (by kernel_rfl) ?_; clear hQ hP Q) | (refine gwC ?_ ?_ <;> (intro hb; first | (cases hb; done) | skip)))
  refine ⟨.inr rfl, by simp [Tryz.results34, spV, wi_zero], kpS G0F⟩
 ·have h1 : ¬ (n : Int) = 0 := by omega
  have h2 : ((n : Int) == 0) = false := by simpa using h1
  have h3 : ((0 : Int) == (n : Int)) = false := by simp; omega
  have h4 : ¬ (0 : Int) = (n : Int) := by omega
  have h5 : ¬ 0 = n := by omega
  repeat' (first | refine gwA ?_ | ((first | refine gwR [] ?_ | refine gwD [] ?_); intro Q hQ hP; simp [hC, hY, h0, h1, h2, h3, h4, h5]; refine hQ _ _ _ _ (by kernel_rfl) ?_; clear hQ hP Q) | (refine gwC ?_ ?_ <;> (intro hb; first | (cases hb; done) | skip)))
  refine ⟨.inr rfl, by simp [Tryz.results34, spV, wi_zero], kpS G0F⟩
theorem kfits_s0 (b : Blk) (off n cap : Nat) (f : Nat → Int) (h : MB b off n f) (g bx tp nr md st : Int) : Fun Tryz.prog G0 34 #[.agg #[.slice (some ⟨100, off, none⟩) n cap, .int .i64 g, .int .i64 bx, .int .i64 tp, .int .i64 nr, .int .i64 md], .agg #[.int .i64 st, .slice none 0 0]] (hpL G0 [(100, b)]) (keys [(100, b)]) (.ret (.bool false) []) := by
 refine fun_ofL (B := 200) G0F Tryz.func34 rfl Tryz.call34 (oneL_ok h.fx) ?_ (flatV_ids (by simp [spV])) (by simp) (by simp) (by simp [Tryz.ntmps34]) (by omega) ?_
 ·simp [idsV, idsA, idsF, ids0, keys]
 intro C hC hC0 hY
 have hr := fun ρ => Blk.fx_rn h.fx ρ
 have hck := check_fun b off n cap f h g bx tp nr md
 unfold cfV at hck
 by_cases h0 : n = 0
 ·subst h0
  rw [show cfOk 0 f g bx tp nr md = false from rfl] at hck
  repeat' (first | refine gwA ?_ | ((first | refine gwR [65] ?_ | refine gwD [65] ?_); intro Q hQ hP; simp [hC, hY]; (repeat ((first | (refine heapK_mv hck G0F (B := 200) (oneL_ok h.fx) (fun k => k) (fun k hk => rfl) (by simp [ren, renA, renF, ren0, cfV]) (by simp) (by simp [hr]) (by simp [keys]) (by simp [keys]; try rfl) ?_)); try simp [hC, hY])); refine hQ _ _ _ _ (by kernel_rfl) ?_; clear hQ hP Q) | (refine gwC ?_ ?_ <;> (intro hb; first | (cases hb; done) | skip)))
  refine ⟨.inr rfl, by simp [Tryz.results34, spV, wi_zero], kpS G0F⟩
 ·have h1 : ¬ (n : Int) = 0 := by omega
  have h2 : ((n : Int) == 0) = false := by simpa using h1
  have h3 : ((0 : Int) == (n : Int)) = false := by simp; omega
  have h4 : ¬ (0 : Int) = (n : Int) := by omega
  have h5 : ¬ 0 = n := by omega
  repeat' (first | refine gwA ?_ | ((first | refine gwR [] ?_ | refine gwD [] ?_); intro Q hQ hP; simp [hC, hY, h0, h1, h2, h3, h4, h5]; refine hQ _ _ _ _ (by kernel_rfl) ?_; clear hQ hP Q) | (refine gwC ?_ ?_ <;> (intro hb; first | (cases hb; done) | skip)))
  refine ⟨.inr rfl, by simp [Tryz.results34, spV, wi_zero], kpS G0F⟩
theorem ekin_00 (g bx tp nr md st : Int) : Fun Tryz.prog G0 9 #[.agg #[.slice none 0 0, .int .i64 g, .int .i64 bx, .int .i64 tp, .int .i64 nr, .int .i64 md], .agg #[.int .i64 st, .slice none 0 0]] (hpL G0 []) (keys []) (.ret (.tuple #[wd 0, .int .i64 2]) []) := by
 refine fun_ofL (B := 200) G0F Tryz.func9 rfl Tryz.call9 nilL_ok ?_ (flatV_ids (by simp [spV])) (by simp) (by simp) (by simp [Tryz.ntmps9]) (by omega) ?_
 ·simp [idsV, idsA, idsF, ids0, keys]
 intro C hC hC0 hY
 have hf := kfits_00 g bx tp nr md st
 repeat' (first | refine gwA ?_ | ((first | refine gwR [34] ?_ | refine gwD [34] ?_); intro Q hQ hP; simp [hC, hY, wi_zero]; (repeat ((first | (refine heapK_mv hf G0F (B := 200) nilL_ok (fun k => k) (fun k hk => rfl) (by simp [ren, renA, renF, ren0, cfV]) (by simp) (by simp) (by simp [keys]) (by simp [keys]; try rfl) ?_)); try simp [hC, hY, wi_zero])); refine hQ _ _ _ _ (by kernel_rfl) ?_; clear hQ hP Q) | (refine gwC ?_ ?_ <;> (intro hb; first | (cases hb; done) | skip)))
 refine ⟨.inr rfl, by simp [Tryz.results9, spV, wi_zero], kpS G0F⟩
theorem epot_00 (g bx tp nr md st : Int) : Fun Tryz.prog G0 11 #[.agg #[.slice none 0 0, .int .i64 g, .int .i64 bx, .int .i64 tp, .int .i64 nr, .int .i64 md], .agg #[.int .i64 st, .slice none 0 0]] (hpL G0 []) (keys []) (.ret (.tuple #[spV 0 0, .int .i64 2]) []) := by
 refine fun_ofL (B := 200) G0F Tryz.func11 rfl Tryz.call11 nilL_ok ?_ (flatV_ids (by simp [spV])) (by simp) (by simp) (by simp [Tryz.ntmps11]) (by omega) ?_
 ·simp [idsV, idsA, idsF, ids0, keys]
 intro C hC hC0 hY
 have hf := kfits_00 g bx tp nr md st
 repeat' (first | refine gwA ?_ | ((first | refine gwR [34] ?_ | refine gwD [34] ?_); intro Q hQ hP; simp [hC, hY, wi_zero]; (repeat ((first | (refine heapK_mv hf G0F (B := 200) nilL_ok (fun k => k) (fun k hk => rfl) (by simp [ren, renA, renF, ren0, cfV]) (by simp) (by simp) (by simp [keys]) (by simp [keys]; try rfl) ?_)); try simp [hC, hY, wi_zero])); refine hQ _ _ _ _ (by kernel_rfl) ?_; clear hQ hP Q) | (refine gwC ?_ ?_ <;> (intro hb; first | (cases hb; done) | skip)))
 refine ⟨.inr rfl, by simp [Tryz.results11, spV, wi_zero], kpS G0F⟩
theorem rkin_00 (g bx tp nr md st : Int) : Fun Tryz.prog G0 10 #[.agg #[.slice none 0 0, .int .i64 g, .int .i64 bx, .int .i64 tp, .int .i64 nr, .int .i64 md], .agg #[.int .i64 st, .slice none 0 0]] (hpL G0 []) (keys []) (.ret (.tuple #[wd 0, .int .i64 2]) []) := by
 refine fun_ofL (B := 200) G0F Tryz.func10 rfl Tryz.call10 nilL_ok ?_ (flatV_ids (by simp [spV])) (by simp) (by simp) (by simp [Tryz.ntmps10]) (by omega) ?_
 ·simp [idsV, idsA, idsF, ids0, keys]
 intro C hC hC0 hY
 repeat' (first | refine gwA ?_ | ((first | refine gwR [] ?_ | refine gwD [] ?_); intro Q hQ hP; simp [hC, hY, fits00K, wi_zero]; refine hQ _ _ _ _ (by kernel_rfl) ?_; clear hQ hP Q) | (refine gwC ?_ ?_ <;> (intro hb; first | (cases hb; done) | skip)))
 refine ⟨.inr rfl, by simp [Tryz.results10, spV, wi_zero], kpS G0F⟩
theorem rpot_00 (g bx tp nr md st : Int) : Fun Tryz.prog G0 12 #[.agg #[.slice none 0 0, .int .i64 g, .int .i64 bx, .int .i64 tp, .int .i64 nr, .int .i64 md], .agg #[.int .i64 st, .slice none 0 0]] (hpL G0 []) (keys []) (.ret (.tuple #[spV 0 0, .int .i64 2]) []) := by
 refine fun_ofL (B := 200) G0F Tryz.func12 rfl Tryz.call12 nilL_ok ?_ (flatV_ids (by simp [spV])) (by simp) (by simp) (by simp [Tryz.ntmps12]) (by omega) ?_
 ·simp [idsV, idsA, idsF, ids0, keys]
 intro C hC hC0 hY
 repeat' (first | refine gwA ?_ | ((first | refine gwR [] ?_ | refine gwD [] ?_); intro Q hQ hP; simp [hC, hY, fits00K, wi_zero]; refine hQ _ _ _ _ (by kernel_rfl) ?_; clear hQ hP Q) | (refine gwC ?_ ?_ <;> (intro hb; first | (cases hb; done) | skip)))
 refine ⟨.inr rfl, by simp [Tryz.results12, spV, wi_zero], kpS G0F⟩
theorem een_00 (g bx tp nr md st : Int) : Fun Tryz.prog G0 13 #[.agg #[.slice none 0 0, .int .i64 g, .int .i64 bx, .int .i64 tp, .int .i64 nr, .int .i64 md], .agg #[.int .i64 st, .slice none 0 0]] (hpL G0 []) (keys []) (.ret (.tuple #[spV 0 0, .int .i64 2]) []) := by
 refine fun_ofL (B := 200) G0F Tryz.func13 rfl Tryz.call13 nilL_ok ?_ (flatV_ids (by simp [spV])) (by simp) (by simp) (by simp [Tryz.ntmps13]) (by omega) ?_
 ·simp [idsV, idsA, idsF, ids0, keys]
 intro C hC hC0 hY
 have hf := epot_00 g bx tp nr md st
 unfold spV at hf
 repeat' (first | refine gwA ?_ | ((first | refine gwR [11] ?_ | refine gwD [11] ?_); intro Q hQ hP; simp [hC, hY, wi_zero]; (repeat ((first | (refine heapK_mv hf G0F (B := 200) nilL_ok (fun k => k) (fun k hk => rfl) (by simp [ren, renA, renF, ren0, cfV]) (by simp) (by simp) (by simp [keys]) (by simp [keys]; try rfl) ?_)); try simp [hC, hY, wi_zero])); refine hQ _ _ _ _ (by kernel_rfl) ?_; clear hQ hP Q) | (refine gwC ?_ ?_ <;> (intro hb; first | (cases hb; done) | skip)))
 refine ⟨.inr rfl, by simp [Tryz.results13, spV, wi_zero], kpS G0F⟩
theorem ren_00 (g bx tp nr md st : Int) : Fun Tryz.prog G0 14 #[.agg #[.slice none 0 0, .int .i64 g, .int .i64 bx, .int .i64 tp, .int .i64 nr, .int .i64 md], .agg #[.int .i64 st, .slice none 0 0]] (hpL G0 []) (keys []) (.ret (.tuple #[spV 0 0, .int .i64 2]) []) := by
 refine fun_ofL (B := 200) G0F Tryz.func14 rfl Tryz.call14 nilL_ok ?_ (flatV_ids (by simp [spV])) (by simp) (by simp) (by simp [Tryz.ntmps14]) (by omega) ?_
 ·simp [idsV, idsA, idsF, ids0, keys]
 intro C hC hC0 hY
 have hf := rpot_00 g bx tp nr md st
 unfold spV at hf
 repeat' (first | refine gwA ?_ | ((first | refine gwR [12] ?_ | refine gwD [12] ?_); intro Q hQ hP; simp [hC, hY, wi_zero]; (repeat ((first | (refine heapK_mv hf G0F (B := 200) nilL_ok (fun k => k) (fun k hk => rfl) (by simp [ren, renA, renF, ren0, cfV]) (by simp) (by simp) (by simp [keys]) (by simp [keys]; try rfl) ?_)); try simp [hC, hY, wi_zero])); refine hQ _ _ _ _ (by kernel_rfl) ?_; clear hQ hP Q) | (refine gwC ?_ ?_ <;> (intro hb; first | (cases hb; done) | skip)))
 refine ⟨.inr rfl, by simp [Tryz.results14, spV, wi_zero], kpS G0F⟩
theorem ekin_0s (b : Blk) (off n cap : Nat) (f : Nat → Int) (h : SB b off n f) (g bx tp nr md st : Int) : Fun Tryz.prog G0 9 #[.agg #[.slice none 0 0, .int .i64 g, .int .i64 bx, .int .i64 tp, .int .i64 nr, .int .i64 md], .agg #[.int .i64 st, .slice (some ⟨100, off, none⟩) n cap]] (hpL G0 [(100, b)]) (keys [(100, b)]) (.ret (.tuple #[wd 0, .int .i64 2]) []) := by
 refine fun_ofL (B := 200) G0F Tryz.func9 rfl Tryz.call9 (oneL_ok h.fx) ?_ (flatV_ids (by simp [spV])) (by simp) (by simp) (by simp [Tryz.ntmps9]) (by omega) ?_
 ·simp [idsV, idsA, idsF, ids0, keys]
 intro C hC hC0 hY
 have hr := fun ρ => Blk.fx_rn h.fx ρ
 have hf := kfits_0s b off n cap f h g bx tp nr md st
 repeat' (first | refine gwA ?_ | ((first | refine gwR [34] ?_ | refine gwD [34] ?_); intro Q hQ hP; simp [hC, hY, wi_zero]; (repeat ((first | (refine heapK_mv hf G0F (B := 200) (oneL_ok h.fx) (fun k => k) (fun k hk => rfl) (by simp [ren, renA, renF, ren0, cfV]) (by simp) (by simp [hr]) (by simp [keys]) (by simp [keys]; try rfl) ?_)); try simp [hC, hY, wi_zero])); refine hQ _ _ _ _ (by kernel_rfl) ?_; clear hQ hP Q) | (refine gwC ?_ ?_ <;> (intro hb; first | (cases hb; done) | skip)))
 refine ⟨.inr rfl, by simp [Tryz.results9, spV, wi_zero], kpS G0F⟩
theorem epot_0s (b : Blk) (off n cap : Nat) (f : Nat → Int) (h : SB b off n f) (g bx tp nr md st : Int) : Fun Tryz.prog G0 11 #[.agg #[.slice none 0 0, .int .i64 g, .int .i64 bx, .int .i64 tp, .int .i64 nr, .int .i64 md], .agg #[.int .i64 st, .slice (some ⟨100, off, none⟩) n cap]] (hpL G0 [(100, b)]) (keys [(100, b)]) (.ret (.tuple #[spV 0 0, .int .i64 2]) []) := by
 refine fun_ofL (B := 200) G0F Tryz.func11 rfl Tryz.call11 (oneL_ok h.fx) ?_ (flatV_ids (by simp [spV])) (by simp) (by simp) (by simp [Tryz.ntmps11]) (by omega) ?_
 ·simp [idsV, idsA, idsF, ids0, keys]
 intro C hC hC0 hY
 have hr := fun ρ => Blk.fx_rn h.fx ρ
 have hf := kfits_0s b off n cap f h g bx tp nr md st
 repeat' (first | refine gwA ?_ | ((first | refine gwR [34] ?_ | refine gwD [34] ?_); intro Q hQ hP; simp [hC, hY, wi_zero]; (repeat ((first | (refine heapK_mv hf G0F (B := 200) (oneL_ok h.fx) (fun k => k) (fun k hk => rfl) (by simp [ren, renA, renF, ren0, cfV]) (by simp) (by simp [hr]) (by simp [keys]) (by simp [keys]; try rfl) ?_)); try simp [hC, hY, wi_zero])); refine hQ _ _ _ _ (by kernel_rfl) ?_; clear hQ hP Q) | (refine gwC ?_ ?_ <;> (intro hb; first | (cases hb; done) | skip)))
 refine ⟨.inr rfl, by simp [Tryz.results11, spV, wi_zero], kpS G0F⟩
theorem rkin_0s (b : Blk) (off n cap : Nat) (f : Nat → Int) (h : SB b off n f) (g bx tp nr md st : Int) : Fun Tryz.prog G0 10 #[.agg #[.slice none 0 0, .int .i64 g, .int .i64 bx, .int .i64 tp, .int .i64 nr, .int .i64 md], .agg #[.int .i64 st, .slice (some ⟨100, off, none⟩) n cap]] (hpL G0 [(100, b)]) (keys [(100, b)]) (.ret (.tuple #[wd 0, .int .i64 2]) []) := by
 refine fun_ofL (B := 200) G0F Tryz.func10 rfl Tryz.call10 (oneL_ok h.fx) ?_ (flatV_ids (by simp [spV])) (by simp) (by simp) (by simp [Tryz.ntmps10]) (by omega) ?_
 ·simp [idsV, idsA, idsF, ids0, keys]
 intro C hC hC0 hY
 have hr := fun ρ => Blk.fx_rn h.fx ρ
 have hf := fits_0s b off n cap f h g bx tp nr md st
 repeat' (first | refine gwA ?_ | ((first | refine gwR [19] ?_ | refine gwD [19] ?_); intro Q hQ hP; simp [hC, hY, wi_zero]; (repeat ((first | (refine heapK_mv hf G0F (B := 200) (oneL_ok h.fx) (fun k => k) (fun k hk => rfl) (by simp [ren, renA, renF, ren0, cfV]) (by simp) (by simp [hr]) (by simp [keys]) (by simp [keys]; try rfl) ?_)); try simp [hC, hY, wi_zero])); refine hQ _ _ _ _ (by kernel_rfl) ?_; clear hQ hP Q) | (refine gwC ?_ ?_ <;> (intro hb; first | (cases hb; done) | skip)))
 refine ⟨.inr rfl, by simp [Tryz.results10, spV, wi_zero], kpS G0F⟩
theorem rpot_0s (b : Blk) (off n cap : Nat) (f : Nat → Int) (h : SB b off n f) (g bx tp nr md st : Int) : Fun Tryz.prog G0 12 #[.agg #[.slice none 0 0, .int .i64 g, .int .i64 bx, .int .i64 tp, .int .i64 nr, .int .i64 md], .agg #[.int .i64 st, .slice (some ⟨100, off, none⟩) n cap]] (hpL G0 [(100, b)]) (keys [(100, b)]) (.ret (.tuple #[spV 0 0, .int .i64 2]) []) := by
 refine fun_ofL (B := 200) G0F Tryz.func12 rfl Tryz.call12 (oneL_ok h.fx) ?_ (flatV_ids (by simp [spV])) (by simp) (by simp) (by simp [Tryz.ntmps12]) (by omega) ?_
 ·simp [idsV, idsA, idsF, ids0, keys]
 intro C hC hC0 hY
 have hr := fun ρ => Blk.fx_rn h.fx ρ
 have hf := fits_0s b off n cap f h g bx tp nr md st
 repeat' (first | refine gwA ?_ | ((first | refine gwR [19] ?_ | refine gwD [19] ?_); intro Q hQ hP; simp [hC, hY, wi_zero]; (repeat ((first | (refine heapK_mv hf G0F (B := 200) (oneL_ok h.fx) (fun k => k) (fun k hk => rfl) (by simp [ren, renA, renF, ren0, cfV]) (by simp) (by simp [hr]) (by simp [keys]) (by simp [keys]; try rfl) ?_)); try simp [hC, hY, wi_zero])); refine hQ _ _ _ _ (by kernel_rfl) ?_; clear hQ hP Q) | (refine gwC ?_ ?_ <;> (intro hb; first | (cases hb; done) | skip)))
 refine ⟨.inr rfl, by simp [Tryz.results12, spV, wi_zero], kpS G0F⟩
theorem een_0s (b : Blk) (off n cap : Nat) (f : Nat → Int) (h : SB b off n f) (g bx tp nr md st : Int) : Fun Tryz.prog G0 13 #[.agg #[.slice none 0 0, .int .i64 g, .int .i64 bx, .int .i64 tp, .int .i64 nr, .int .i64 md], .agg #[.int .i64 st, .slice (some ⟨100, off, none⟩) n cap]] (hpL G0 [(100, b)]) (keys [(100, b)]) (.ret (.tuple #[spV 0 0, .int .i64 2]) []) := by
 refine fun_ofL (B := 200) G0F Tryz.func13 rfl Tryz.call13 (oneL_ok h.fx) ?_ (flatV_ids (by simp [spV])) (by simp) (by simp) (by simp [Tryz.ntmps13]) (by omega) ?_
 ·simp [idsV, idsA, idsF, ids0, keys]
 intro C hC hC0 hY
 have hr := fun ρ => Blk.fx_rn h.fx ρ
 have hf := epot_0s b off n cap f h g bx tp nr md st
 unfold spV at hf
 repeat' (first | refine gwA ?_ | ((first | refine gwR [11] ?_ | refine gwD [11] ?_); intro Q hQ hP; simp [hC, hY, wi_zero]; (repeat ((first | (refine heapK_mv hf G0F (B := 200) (oneL_ok h.fx) (fun k => k) (fun k hk => rfl) (by simp [ren, renA, renF, ren0, cfV]) (by simp) (by simp [hr]) (by simp [keys]) (by simp [keys]; try rfl) ?_)); try simp [hC, hY, wi_zero])); refine hQ _ _ _ _ (by kernel_rfl) ?_; clear hQ hP Q) | (refine gwC ?_ ?_ <;> (intro hb; first | (cases hb; done) | skip)))
 refine ⟨.inr rfl, by simp [Tryz.results13, spV, wi_zero], kpS G0F⟩
theorem ren_0s (b : Blk) (off n cap : Nat) (f : Nat → Int) (h : SB b off n f) (g bx tp nr md st : Int) : Fun Tryz.prog G0 14 #[.agg #[.slice none 0 0, .int .i64 g, .int .i64 bx, .int .i64 tp, .int .i64 nr, .int .i64 md], .agg #[.int .i64 st, .slice (some ⟨100, off, none⟩) n cap]] (hpL G0 [(100, b)]) (keys [(100, b)]) (.ret (.tuple #[spV 0 0, .int .i64 2]) []) := by
 refine fun_ofL (B := 200) G0F Tryz.func14 rfl Tryz.call14 (oneL_ok h.fx) ?_ (flatV_ids (by simp [spV])) (by simp) (by simp) (by simp [Tryz.ntmps14]) (by omega) ?_
 ·simp [idsV, idsA, idsF, ids0, keys]
 intro C hC hC0 hY
 have hr := fun ρ => Blk.fx_rn h.fx ρ
 have hf := rpot_0s b off n cap f h g bx tp nr md st
 unfold spV at hf
 repeat' (first | refine gwA ?_ | ((first | refine gwR [12] ?_ | refine gwD [12] ?_); intro Q hQ hP; simp [hC, hY, wi_zero]; (repeat ((first | (refine heapK_mv hf G0F (B := 200) (oneL_ok h.fx) (fun k => k) (fun k hk => rfl) (by simp [ren, renA, renF, ren0, cfV]) (by simp) (by simp [hr]) (by simp [keys]) (by simp [keys]; try rfl) ?_)); try simp [hC, hY, wi_zero])); refine hQ _ _ _ _ (by kernel_rfl) ?_; clear hQ hP Q) | (refine gwC ?_ ?_ <;> (intro hb; first | (cases hb; done) | skip)))
 refine ⟨.inr rfl, by simp [Tryz.results14, spV, wi_zero], kpS G0F⟩
theorem ekin_s0 (b : Blk) (off n cap : Nat) (f : Nat → Int) (h : MB b off n f) (g bx tp nr md st : Int) : Fun Tryz.prog G0 9 #[.agg #[.slice (some ⟨100, off, none⟩) n cap, .int .i64 g, .int .i64 bx, .int .i64 tp, .int .i64 nr, .int .i64 md], .agg #[.int .i64 st, .slice none 0 0]] (hpL G0 [(100, b)]) (keys [(100, b)]) (.ret (.tuple #[wd 0, .int .i64 2]) []) := by
 refine fun_ofL (B := 200) G0F Tryz.func9 rfl Tryz.call9 (oneL_ok h.fx) ?_ (flatV_ids (by simp [spV])) (by simp) (by simp) (by simp [Tryz.ntmps9]) (by omega) ?_
 ·simp [idsV, idsA, idsF, ids0, keys]
 intro C hC hC0 hY
 have hr := fun ρ => Blk.fx_rn h.fx ρ
 have hf := kfits_s0 b off n cap f h g bx tp nr md st
 repeat' (first | refine gwA ?_ | ((first | refine gwR [34] ?_ | refine gwD [34] ?_); intro Q hQ hP; simp [hC, hY, wi_zero]; (repeat ((first | (refine heapK_mv hf G0F (B := 200) (oneL_ok h.fx) (fun k => k) (fun k hk => rfl) (by simp [ren, renA, renF, ren0, cfV]) (by simp) (by simp [hr]) (by simp [keys]) (by simp [keys]; try rfl) ?_)); try simp [hC, hY, wi_zero])); refine hQ _ _ _ _ (by kernel_rfl) ?_; clear hQ hP Q) | (refine gwC ?_ ?_ <;> (intro hb; first | (cases hb; done) | skip)))
 refine ⟨.inr rfl, by simp [Tryz.results9, spV, wi_zero], kpS G0F⟩
theorem epot_s0 (b : Blk) (off n cap : Nat) (f : Nat → Int) (h : MB b off n f) (g bx tp nr md st : Int) : Fun Tryz.prog G0 11 #[.agg #[.slice (some ⟨100, off, none⟩) n cap, .int .i64 g, .int .i64 bx, .int .i64 tp, .int .i64 nr, .int .i64 md], .agg #[.int .i64 st, .slice none 0 0]] (hpL G0 [(100, b)]) (keys [(100, b)]) (.ret (.tuple #[spV 0 0, .int .i64 2]) []) := by
 refine fun_ofL (B := 200) G0F Tryz.func11 rfl Tryz.call11 (oneL_ok h.fx) ?_ (flatV_ids (by simp [spV])) (by simp) (by simp) (by simp [Tryz.ntmps11]) (by omega) ?_
 ·simp [idsV, idsA, idsF, ids0, keys]
 intro C hC hC0 hY
 have hr := fun ρ => Blk.fx_rn h.fx ρ
 have hf := kfits_s0 b off n cap f h g bx tp nr md st
 repeat' (first | refine gwA ?_ | ((first | refine gwR [34] ?_ | refine gwD [34] ?_); intro Q hQ hP; simp [hC, hY, wi_zero]; (repeat ((first | (refine heapK_mv hf G0F (B := 200) (oneL_ok h.fx) (fun k => k) (fun k hk => rfl) (by simp [ren, renA, renF, ren0, cfV]) (by simp) (by simp [hr]) (by simp [keys]) (by simp [keys]; try rfl) ?_)); try simp [hC, hY, wi_zero])); refine hQ _ _ _ _ (by kernel_rfl) ?_; clear hQ hP Q) | (refine gwC ?_ ?_ <;> (intro hb; first | (cases hb; done) | skip)))
 refine ⟨.inr rfl, by simp [Tryz.results11, spV, wi_zero], kpS G0F⟩
theorem rkin_s0 (b : Blk) (off n cap : Nat) (f : Nat → Int) (h : MB b off n f) (g bx tp nr md st : Int) : Fun Tryz.prog G0 10 #[.agg #[.slice (some ⟨100, off, none⟩) n cap, .int .i64 g, .int .i64 bx, .int .i64 tp, .int .i64 nr, .int .i64 md], .agg #[.int .i64 st, .slice none 0 0]] (hpL G0 [(100, b)]) (keys [(100, b)]) (.ret (.tuple #[wd 0, .int .i64 2]) []) := by
 refine fun_ofL (B := 200) G0F Tryz.func10 rfl Tryz.call10 (oneL_ok h.fx) ?_ (flatV_ids (by simp [spV])) (by simp) (by simp) (by simp [Tryz.ntmps10]) (by omega) ?_
 ·simp [idsV, idsA, idsF, ids0, keys]
 intro C hC hC0 hY
 have hr := fun ρ => Blk.fx_rn h.fx ρ
 have hf := fits_s0 b off n cap f h g bx tp nr md st
 repeat' (first | refine gwA ?_ | ((first | refine gwR [19] ?_ | refine gwD [19] ?_); intro Q hQ hP; simp [hC, hY, wi_zero]; (repeat ((first | (refine heapK_mv hf G0F (B := 200) (oneL_ok h.fx) (fun k => k) (fun k hk => rfl) (by simp [ren, renA, renF, ren0, cfV]) (by simp) (by simp [hr]) (by simp [keys]) (by simp [keys]; try rfl) ?_)); try simp [hC, hY, wi_zero])); refine hQ _ _ _ _ (by kernel_rfl) ?_; clear hQ hP Q) | (refine gwC ?_ ?_ <;> (intro hb; first | (cases hb; done) | skip)))
 refine ⟨.inr rfl, by simp [Tryz.results10, spV, wi_zero], kpS G0F⟩
theorem rpot_s0 (b : Blk) (off n cap : Nat) (f : Nat → Int) (h : MB b off n f) (g bx tp nr md st : Int) : Fun Tryz.prog G0 12 #[.agg #[.slice (some ⟨100, off, none⟩) n cap, .int .i64 g, .int .i64 bx, .int .i64 tp, .int .i64 nr, .int .i64 md], .agg #[.int .i64 st, .slice none 0 0]] (hpL G0 [(100, b)]) (keys [(100, b)]) (.ret (.tuple #[spV 0 0, .int .i64 2]) []) := by
 refine fun_ofL (B := 200) G0F Tryz.func12 rfl Tryz.call12 (oneL_ok h.fx) ?_ (flatV_ids (by simp [spV])) (by simp) (by simp) (by simp [Tryz.ntmps12]) (by omega) ?_
 ·simp [idsV, idsA, idsF, ids0, keys]
 intro C hC hC0 hY
 have hr := fun ρ => Blk.fx_rn h.fx ρ
 have hf := fits_s0 b off n cap f h g bx tp nr md st
 repeat' (first | refine gwA ?_ | ((first | refine gwR [19] ?_ | refine gwD [19] ?_); intro Q hQ hP; simp [hC, hY, wi_zero]; (repeat ((first | (refine heapK_mv hf G0F (B := 200) (oneL_ok h.fx) (fun k => k) (fun k hk => rfl) (by simp [ren, renA, renF, ren0, cfV]) (by simp) (by simp [hr]) (by simp [keys]) (by simp [keys]; try rfl) ?_)); try simp [hC, hY, wi_zero])); refine hQ _ _ _ _ (by kernel_rfl) ?_; clear hQ hP Q) | (refine gwC ?_ ?_ <;> (intro hb; first | (cases hb; done) | skip)))
 refine ⟨.inr rfl, by simp [Tryz.results12, spV, wi_zero], kpS G0F⟩
theorem een_s0 (b : Blk) (off n cap : Nat) (f : Nat → Int) (h : MB b off n f) (g bx tp nr md st : Int) : Fun Tryz.prog G0 13 #[.agg #[.slice (some ⟨100, off, none⟩) n cap, .int .i64 g, .int .i64 bx, .int .i64 tp, .int .i64 nr, .int .i64 md], .agg #[.int .i64 st, .slice none 0 0]] (hpL G0 [(100, b)]) (keys [(100, b)]) (.ret (.tuple #[spV 0 0, .int .i64 2]) []) := by
 refine fun_ofL (B := 200) G0F Tryz.func13 rfl Tryz.call13 (oneL_ok h.fx) ?_ (flatV_ids (by simp [spV])) (by simp) (by simp) (by simp [Tryz.ntmps13]) (by omega) ?_
 ·simp [idsV, idsA, idsF, ids0, keys]
 intro C hC hC0 hY
 have hr := fun ρ => Blk.fx_rn h.fx ρ
 have hf := epot_s0 b off n cap f h g bx tp nr md st
 unfold spV at hf
 repeat' (first | refine gwA ?_ | ((first | refine gwR [11] ?_ | refine gwD [11] ?_); intro Q hQ hP; simp [hC, hY, wi_zero]; (repeat ((first | (refine heapK_mv hf G0F (B := 200) (oneL_ok h.fx) (fun k => k) (fun k hk => rfl) (by simp [ren, renA, renF, ren0, cfV]) (by simp) (by simp [hr]) (by simp [keys]) (by simp [keys]; try rfl) ?_)); try simp [hC, hY, wi_zero])); refine hQ _ _ _ _ (by kernel_rfl) ?_; clear hQ hP Q) | (refine gwC ?_ ?_ <;> (intro hb; first | (cases hb; done) | skip)))
 refine ⟨.inr rfl, by simp [Tryz.results13, spV, wi_zero], kpS G0F⟩
theorem ren_s0 (b : Blk) (off n cap : Nat) (f : Nat → Int) (h : MB b off n f) (g bx tp nr md st : Int) : Fun Tryz.prog G0 14 #[.agg #[.slice (some ⟨100, off, none⟩) n cap, .int .i64 g, .int .i64 bx, .int .i64 tp, .int .i64 nr, .int .i64 md], .agg #[.int .i64 st, .slice none 0 0]] (hpL G0 [(100, b)]) (keys [(100, b)]) (.ret (.tuple #[spV 0 0, .int .i64 2]) []) := by
 refine fun_ofL (B := 200) G0F Tryz.func14 rfl Tryz.call14 (oneL_ok h.fx) ?_ (flatV_ids (by simp [spV])) (by simp) (by simp) (by simp [Tryz.ntmps14]) (by omega) ?_
 ·simp [idsV, idsA, idsF, ids0, keys]
 intro C hC hC0 hY
 have hr := fun ρ => Blk.fx_rn h.fx ρ
 have hf := rpot_s0 b off n cap f h g bx tp nr md st
 unfold spV at hf
 repeat' (first | refine gwA ?_ | ((first | refine gwR [12] ?_ | refine gwD [12] ?_); intro Q hQ hP; simp [hC, hY, wi_zero]; (repeat ((first | (refine heapK_mv hf G0F (B := 200) (oneL_ok h.fx) (fun k => k) (fun k hk => rfl) (by simp [ren, renA, renF, ren0, cfV]) (by simp) (by simp [hr]) (by simp [keys]) (by simp [keys]; try rfl) ?_)); try simp [hC, hY, wi_zero])); refine hQ _ _ _ _ (by kernel_rfl) ?_; clear hQ hP Q) | (refine gwC ?_ ?_ <;> (intro hb; first | (cases hb; done) | skip)))
 refine ⟨.inr rfl, by simp [Tryz.results14, spV, wi_zero], kpS G0F⟩
def wkM : Blk := ⟨#[.int .i64 1, .int .i64 2], .ty 3⟩
def wkS : Blk := ⟨#[.int .i64 0, .int .i64 0, .int .i64 0, .int .i64 1, .int .i64 2, .int .i64 2, .int .i64 0, .int .i64 0, .int .i64 6, .int .i64 0, .int .i64 0, .int .i64 0], .ty 53⟩
def wkm (j : Nat) : Int := if j = 0 then 1 else 2
def wkb (j : Nat) : Int := if j = 3 then 1 else if j = 4 then 2 else if j = 5 then 2 else if j = 8 then 6 else 0
theorem wkM_fx : wkM.fx := fun x hx => by simp [wkM] at hx; rcases hx with rfl | rfl <;> rfl
theorem wkS_fx : wkS.fx := fun x hx => by simp [wkS] at hx; rcases hx with rfl | rfl | rfl | rfl | rfl | rfl <;> rfl
theorem wkM_mb : MB wkM 0 2 wkm := ⟨fun j hj => by
 have : j = 0 ∨ j = 1 := by omega
 rcases this with rfl | rfl <;> rfl, wkM_fx, fun j hj => by
 have : j = 0 ∨ j = 1 := by omega
 rcases this with rfl | rfl <;> decide, by omega⟩
theorem wkS_sb : SB wkS 0 2 wkb := ⟨fun j hj => by
 have : j = 0 ∨ j = 1 ∨ j = 2 ∨ j = 3 ∨ j = 4 ∨ j = 5 ∨ j = 6 ∨ j = 7 ∨ j = 8 ∨ j = 9 ∨ j = 10 ∨ j = 11 := by omega
 rcases this with rfl | rfl | rfl | rfl | rfl | rfl | rfl | rfl | rfl | rfl | rfl | rfl <;> rfl, wkS_fx, fun j hj => by
 have : j = 0 ∨ j = 1 ∨ j = 2 ∨ j = 3 ∨ j = 4 ∨ j = 5 ∨ j = 6 ∨ j = 7 ∨ j = 8 ∨ j = 9 ∨ j = 10 ∨ j = 11 := by omega
 rcases this with rfl | rfl | rfl | rfl | rfl | rfl | rfl | rfl | rfl | rfl | rfl | rfl <;> decide, by omega⟩
theorem wk_plo {N s r : Int} (h0 : 0 ≤ r) (h1 : r * r ≤ N / s) (h2 : N / s < (r + 1) * (r + 1)) : plo N s = r := by
 unfold plo
 exact isq_unique h0 h1 h2
theorem wk_1 : enLo 1 1 1 4 = 524288 ∧ enHi 1 1 1 4 = 524288 := by
 have e : enLo 1 1 1 4 = 524288 := wk_plo (by decide) (by decide) (by decide)
 refine ⟨e, ?_⟩
 rw [en_hi_eq, e]
 decide
theorem wk_2 : enLo 1 1 1 2 = 741455 ∧ enHi 1 1 1 2 = 741456 := by
 have e : enLo 1 1 1 2 = 741455 := wk_plo (by decide) (by decide) (by decide)
 refine ⟨e, ?_⟩
 rw [en_hi_eq, e]
 decide
theorem wk_3 : enLo 3 2 1 36 = 1048576 ∧ enHi 3 2 1 36 = 1048576 := by
 have e : enLo 3 2 1 36 = 1048576 := wk_plo (by decide) (by decide) (by decide)
 refine ⟨e, ?_⟩
 rw [en_hi_eq, e]
 decide
theorem wk_sq : esqF wkb 1 0 = 36 := by decide
theorem wk_lo : potLo 3 wkm wkb 2 = 1048576 := by
 unfold potLo
 simp only [sum2, sumN, wk_sq, show wkm 1 = 2 from rfl, show wkm 0 = 1 from rfl, wk_3.1]
 decide
theorem wk_hi : potHi 3 wkm wkb 2 = 1048576 := by
 unfold potHi
 simp only [sum2, sumN, wk_sq, show wkm 1 = 2 from rfl, show wkm 0 = 1 from rfl, wk_3.2]
 decide
theorem wk_z : potZ wkb 2 = 0 := by
 unfold potZ
 simp only [sum2, sumN, wk_sq]
 decide
theorem wk_k : kinV wkm wkb 2 = 4718592 := by decide
theorem wk_ok : cfOk 2 wkm 3 1000 1000 1 0 = true := by decide
theorem wk_rt : rightB 0 wkb 2 = true := by decide
theorem wkM_rn {ρ : Nat → Nat} : wkM.rn ρ = wkM := Blk.fx_rn wkM_fx ρ
theorem wkS_rn {ρ : Nat → Nat} : wkS.rn ρ = wkS := Blk.fx_rn wkS_fx ρ
theorem epair_zat {g m w : Int} (h : EIn g m w 0) (K : Value → Prop) : callK Tryz.prog G0 7 #[.int .i64 g, .int .i64 m, .int .i64 w, .int .i64 0] K ↔ K (.tuple #[.int .i64 0, .int .i64 0, .int .i64 30]) := callK_iff G0W (by kernel_rfl) (epair_z h rfl)
theorem epair_bat {g m w q : Int} (h : ¬ EIn g m w q) (K : Value → Prop) : callK Tryz.prog G0 7 #[.int .i64 g, .int .i64 m, .int .i64 w, .int .i64 q] K ↔ K (.tuple #[.int .i64 0, .int .i64 0, .int .i64 2]) := callK_iff G0W (by kernel_rfl) (epair_bad h)
theorem wk_w (K : Value → Prop) : callK Tryz.prog G0 15 #[spV 3670016 3670016] K ↔ K (.tuple #[.int .i64 0, .bool true]) := callK_iff G0W (by kernel_rfl) (ewidth_small 3670016 3670016 (i64_wr (by decide)) (i64_wr (by decide)) (by decide) (by decide))
theorem wk_h (K : Value → Prop) : callK Tryz.prog G0 17 #[spV 3670016 3670016, wd 3670016] K ↔ K (.bool true) := by
 have e : holdB 3670016 3670016 3670016 = true := by decide
 rw [← e]
 exact callK_iff G0W (by kernel_rfl) (eholds_ret 3670016 3670016 3670016)
theorem wk_n (K : Value → Prop) : callK Tryz.prog G0 17 #[spV 3670016 3670016, wd 0] K ↔ K (.bool false) := by
 have e : holdB 3670016 3670016 0 = false := by decide
 rw [← e]
 exact callK_iff G0W (by kernel_rfl) (eholds_ret 3670016 3670016 0)
set_option maxRecDepth 100000 in
set_option maxHeartbeats 4000000 in
theorem wakes22_ret : Ret Tryz.prog G0 6 #[] (.bool true) := by
 refine ret_of G0F Tryz.func6 rfl Tryz.call6 rfl (by simp) (by simp [Tryz.ntmps6]) ?_
 intro C hC hC0 hY
 have p1 := epair_at (g := 1) (m := 1) (w := 1) (q := 4) (by constructor <;> decide) (by decide) wk_1.1 wk_1.2
 have p2 := epair_at (g := 1) (m := 1) (w := 1) (q := 2) (by constructor <;> decide) (by decide) wk_2.1 wk_2.2
 have p3 := epair_zat (g := 1) (m := 1) (w := 1) (by constructor <;> decide)
 have p4 := epair_bat (g := 0) (m := 1) (w := 1) (q := 0) (fun h => absurd h.g0 (by decide))
 have hT := LTwo.two (G := G0) wkM_fx wkS_fx
 have hki := ekin_L _ _ wkM wkS hT 0 2 2 0 2 2 wkm wkb wkM_mb wkS_sb (by omega) (by omega) 3 1000 1000 1 0 0 (by decide)
 have hen := eEnergy_fit _ _ wkM wkS hT 0 2 2 0 2 wkm wkb wkM_mb wkS_sb (by omega) (by omega) 3 1000 1000 1 0 0 (by decide) wk_ok wk_rt wk_z
 unfold kinW kinE at hki
 rw [fitB_iff.2 ⟨rfl, wk_ok, wk_rt⟩, if_pos rfl, if_pos rfl, wk_k] at hki
 rw [wk_k, wk_lo, wk_hi] at hen
 unfold cfV spV at hen
 unfold cfV at hki
 have ww := wk_w
 have wh := wk_h
 have wn := wk_n
 unfold spV at ww wh wn
 unfold wd at wh wn
 simp only [wi_zero] at wn
 have o1 : i64 4718592 := by decide
 have o2 : i64 3670016 := by decide
 repeat' (first | refine gwA ?_ | ((first | refine gwR [9, 13] ?_ | refine gwD [9, 13] ?_); intro Q hQ hP; simp [hC, hY, p1, p2, p3, p4, wi_zero, ww, wh, wn, o1, o2]; (repeat ((first | (refine heapK_mv hki G0F hT.ok (fun k => if k = 100 then 464 else if k = 108 then 528 else k) (fun k hk => (if_neg (by omega)).trans (if_neg (by omega))) ?_ (by simp) (by simp [wkM_rn, wkS_rn]; simp [wkM, wkS]; kernel_rfl) (by simp [keys]) (by simp [keys]; rfl) ?_; focus (simp [ren, renA, renF, ren0]; done)) | (refine heapK_mv hen G0F hT.ok (fun k => if k = 100 then 464 else if k = 108 then 528 else k) (fun k hk => (if_neg (by omega)).trans (if_neg (by omega))) ?_ (by simp) (by simp [wkM_rn, wkS_rn]; simp [wkM, wkS]; kernel_rfl) (by simp [keys]) (by simp [keys]; rfl) ?_; focus (simp [ren, renA, renF, ren0]; done))); try simp [hC, hY, p1, p2, p3, p4, wi_zero, ww, wh, wn, o1, o2])); refine hQ _ _ _ _ (by kernel_rfl) ?_; clear hQ hP Q) | (refine gwC ?_ ?_ <;> (intro hb; first | (cases hb; done) | skip)))
 refine ⟨.inr trivial, ?_⟩
 simp [Tryz.results6]
theorem epot_L (L : List (Nat × Blk)) (ks : Nat) (bm bs : Blk) (hT : LTwo G0 L ks bm bs) (off n cap off2 n2 cap2 : Nat) (fm fs : Nat → Int) (hm : MB bm off n fm) (hSb : SB bs off2 n2 fs) (hcap : n ≤ cap) (hcap2 : n2 ≤ cap2) (g bx tp nr md st : Int) (hs : i64 st) :
  Fun Tryz.prog G0 11 #[cfV (.slice (some ⟨100, off, none⟩) n cap) g bx tp nr md, .agg #[.int .i64 st, .slice (some ⟨ks, off2, none⟩) n2 cap2]] (hpL G0 L) (keys L) (.ret (.tuple #[spV (potL n n2 (cfOk n fm g bx tp nr md) (rightB st fs n2) g fm fs) (potH n n2 (cfOk n fm g bx tp nr md) (rightB st fs n2) g fm fs), .int .i64 (potE n n2 (cfOk n fm g bx tp nr md) (rightB st fs n2) fs)]) []) := by
 unfold potL potH potE
 cases hf : fitB n n2 (cfOk n fm g bx tp nr md) (rightB st fs n2) with
 | false =>
  simp only [Bool.false_eq_true, if_false, if_neg (show ¬ (2 : Int) = 0 by decide)]
  exact epot_bad L ks bm bs hT off n cap off2 n2 cap2 fm fs hm hSb g bx tp nr md st hs hf
 | true =>
  obtain ⟨rfl, hok, hrt⟩ := fitB_iff.1 hf
  by_cases hz : potZ fs n = 0
  ·simp only [if_true, if_pos hz]
   exact epot_fit L ks bm bs hT off n cap off2 cap2 fm fs hm hSb hcap2 g bx tp nr md st hs hok hrt hz
  ·simp only [if_true, if_neg hz, if_neg (show ¬ (30 : Int) = 0 by decide)]
   exact epot_zero L ks bm bs hT off n cap off2 cap2 fm fs hm hSb hcap2 g bx tp nr md st hs hok hrt hz
set_option maxRecDepth 8000 in
set_option maxHeartbeats 8000000 in
theorem EnergyTells_fun (L : List (Nat × Blk)) (ks : Nat) (bm bs : Blk) (hT : LTwo G0 L ks bm bs) (off n cap : Nat) (fm : Nat → Int) (hm : MB bm off n fm) (hcap : n ≤ cap) (off2 n2 cap2 : Nat) (fs : Nat → Int) (hSb : SB bs off2 n2 fs) (hcap2 : n2 ≤ cap2) (g bx tp nr md st u m w q lo hi a : Int) (hg : i64 g) (hbx : i64 bx) (htp : i64 tp) (hnr : i64 nr) (hmd : i64 md) (hs : i64 st) (hu : i64 u) (hm9 : i64 m) (hw : i64 w) (hq : i64 q) :
  Fun Tryz.prog G0 3 #[cfV (.slice (some ⟨100, off, none⟩) n cap) g bx tp nr md, .agg #[.int .i64 st, .slice (some ⟨ks, off2, none⟩) n2 cap2], .int .i64 u, .int .i64 m, .int .i64 w, .int .i64 q, spV lo hi, wd a] (hpL G0 L) (keys L) (.ret (.bool true) []) := by
 refine fun_ofL (B := 200) G0F Tryz.func3 rfl Tryz.call3 hT.ok ?_ (by simp) (by simp) (by simp) (by simp [Tryz.ntmps3]) (by omega) ?_
 ·simp [idsV, idsA, idsF, ids0, hT.ia, hT.ib, cfV, spV]
 intro C hC hC0 hY
 have hA := hT.a
 have hS := hT.s
 have hne := hT.ne
 have hLow := hT.low
 have hgr := great_L L ks bm bs hT off n cap off2 n2 cap2 g bx tp nr md st
 have hk1 := ekin_L L ks bm bs hT off n cap off2 n2 cap2 fm fs hm hSb hcap hcap2 g bx tp nr md st hs
 have hk2 := rkin_L L ks bm bs hT off n cap off2 n2 cap2 fm fs hm hSb hcap hcap2 g bx tp nr md st hs
 have ho1 := epot_L L ks bm bs hT off n cap off2 n2 cap2 fm fs hm hSb hcap hcap2 g bx tp nr md st hs
 have ho2 := rpot_L L ks bm bs hT off n cap off2 n2 cap2 fm fs hm hSb hcap hcap2 g bx tp nr md st hs
 have he1 := eEnergy_L L ks bm bs hT off n cap off2 n2 cap2 fm fs hm hSb hcap hcap2 g bx tp nr md st hs
 have he2 := rEnergy_L L ks bm bs hT off n cap off2 n2 cap2 fm fs hm hSb hcap hcap2 g bx tp nr md st hs
 obtain ⟨lo9, hi9, E9, hR⟩ : ∃ lo hi E, enV n n2 fm fs g bx tp nr md st = .tuple #[spV lo hi, .int .i64 E] := ⟨_, _, _, rfl⟩
 rw [hR] at he1 he2
 clear hR
 generalize kinW n n2 (cfOk n fm g bx tp nr md) (rightB st fs n2) fm fs = kw at *
 generalize kinE n n2 (cfOk n fm g bx tp nr md) (rightB st fs n2) = ke at *
 generalize potL n n2 (cfOk n fm g bx tp nr md) (rightB st fs n2) g fm fs = pl at *
 generalize potH n n2 (cfOk n fm g bx tp nr md) (rightB st fs n2) g fm fs = ph at *
 generalize potE n n2 (cfOk n fm g bx tp nr md) (rightB st fs n2) fs = pe at *
 have wk := wakes22_of wakes22_ret
 obtain ⟨p1, p2, p3, hp1, hp2⟩ := pair_E u m w q
 have P1 := fun K => callK_iff (K := K) G0W (by kernel_rfl) hp1
 have P2 := fun K => callK_iff (K := K) G0W (by kernel_rfl) hp2
 obtain ⟨y1, y2, hn1, hn2⟩ := width_E lo hi
 have N1 := fun K => callK_iff (K := K) G0W (by kernel_rfl) hn1
 have N2 := fun K => callK_iff (K := K) G0W (by kernel_rfl) hn2
 have O1 := fun K => callK_iff (K := K) G0W (by kernel_rfl) (eholds_ret lo hi a)
 have O2 := fun K => callK_iff (K := K) G0W (by kernel_rfl) (rholds_ret lo hi a)
 generalize holdB lo hi a = hb at *
 unfold spV at N1 N2
 unfold spV wd at O1 O2
 unfold spV at ho1 ho2 he1 he2 ⊢
 unfold cfV at hgr hk1 hk2 ho1 ho2 he1 he2 ⊢
 cases hq9 : (decide (9 < n) || decide (9 < n2)) with
 | true =>
  rw [hq9] at hgr
  repeat' (first | refine gwA ?_ | ((first | refine gwR [5, 9, 10, 11, 12, 13, 14] ?_ | refine gwD [5, 9, 10, 11, 12, 13, 14] ?_); intro Q hQ hP; simp [hC, hY, hA, hS, hne, wk, P1, P2, N1, N2, O1, O2, wi_zero]; (repeat ((first | (refine heapK_L hgr hT.ok aMem ?_) | (refine heapK_L hk1 hT.ok aMem ?_) | (refine heapK_L hk2 hT.ok aMem ?_) | (refine heapK_L ho1 hT.ok aMem ?_) | (refine heapK_L ho2 hT.ok aMem ?_) | (refine heapK_L he1 hT.ok aMem ?_) | (refine heapK_L he2 hT.ok aMem ?_)); try simp [hC, hY, hA, hS, hne, wk, P1, P2, N1, N2, O1, O2, wi_zero])); refine hQ _ _ _ _ (by kernel_rfl) ?_; clear hQ hP Q) | (refine gwC ?_ ?_ <;> (intro hb; first | (cases hb; done) | skip)))
  refine ⟨.inr rfl, by simp [Tryz.results3], kpT G0F⟩
 | false =>
  rw [hq9] at hgr
  repeat' (first | refine gwA ?_ | ((first | refine gwR [5, 9, 10, 11, 12, 13, 14] ?_ | refine gwD [5, 9, 10, 11, 12, 13, 14] ?_); intro Q hQ hP; simp [hC, hY, hA, hS, hne, wk, P1, P2, N1, N2, O1, O2, wi_zero]; (repeat ((first | (refine heapK_L hgr hT.ok aMem ?_) | (refine heapK_L hk1 hT.ok aMem ?_) | (refine heapK_L hk2 hT.ok aMem ?_) | (refine heapK_L ho1 hT.ok aMem ?_) | (refine heapK_L ho2 hT.ok aMem ?_) | (refine heapK_L he1 hT.ok aMem ?_) | (refine heapK_L he2 hT.ok aMem ?_)); try simp [hC, hY, hA, hS, hne, wk, P1, P2, N1, N2, O1, O2, wi_zero])); refine hQ _ _ _ _ (by kernel_rfl) ?_; clear hQ hP Q) | (refine gwC ?_ ?_ <;> (intro hb; first | (cases hb; done) | skip)))
  refine ⟨.inr rfl, by simp [Tryz.results3], kpT G0F⟩
set_option maxRecDepth 8000 in
set_option maxHeartbeats 8000000 in
theorem EnergyTells_00 (g bx tp nr md st u m w q lo hi a : Int) (hg : i64 g) (hbx : i64 bx) (htp : i64 tp) (hnr : i64 nr) (hmd : i64 md) (hs : i64 st) (hu : i64 u) (hm9 : i64 m) (hw : i64 w) (hq : i64 q) : Ret Tryz.prog G0 3 #[cfV (.slice none 0 0) g bx tp nr md, .agg #[.int .i64 st, .slice none 0 0], .int .i64 u, .int .i64 m, .int .i64 w, .int .i64 q, spV lo hi, wd a] (.bool true) := by
 unfold cfV
 refine ret_of G0F Tryz.func3 rfl Tryz.call3 (by simp) (by simp) (by simp [Tryz.ntmps3]) ?_
 intro C hC hC0 hY
 have hk1 := ekin_00 g bx tp nr md st
 have hk2 := rkin_00 g bx tp nr md st
 have ho1 := epot_00 g bx tp nr md st
 have ho2 := rpot_00 g bx tp nr md st
 have he1 := een_00 g bx tp nr md st
 have he2 := ren_00 g bx tp nr md st
 have wk := wakes22_of wakes22_ret
 obtain ⟨p1, p2, p3, hp1, hp2⟩ := pair_E u m w q
 have P1 := fun K => callK_iff (K := K) G0W (by kernel_rfl) hp1
 have P2 := fun K => callK_iff (K := K) G0W (by kernel_rfl) hp2
 obtain ⟨y1, y2, hn1, hn2⟩ := width_E lo hi
 have N1 := fun K => callK_iff (K := K) G0W (by kernel_rfl) hn1
 have N2 := fun K => callK_iff (K := K) G0W (by kernel_rfl) hn2
 have O1 := fun K => callK_iff (K := K) G0W (by kernel_rfl) (eholds_ret lo hi a)
 have O2 := fun K => callK_iff (K := K) G0W (by kernel_rfl) (rholds_ret lo hi a)
 generalize holdB lo hi a = hb at *
 unfold spV at N1 N2
 unfold spV wd at O1 O2
 unfold spV at ho1 ho2 he1 he2 ⊢
 repeat' (first | refine gwA ?_ | ((first | refine gwR [9, 10, 11, 12, 13, 14] ?_ | refine gwD [9, 10, 11, 12, 13, 14] ?_); intro Q hQ hP; simp [hC, hY, great00K, wk, P1, P2, N1, N2, O1, O2, wi_zero]; (repeat ((first | (refine heapK_mv hk1 G0F (B := 200) nilL_ok (fun k => k) (fun k hk => rfl) (by simp [ren, renA, renF, ren0, cfV]) (by simp) (by simp) (by simp [keys]) (by simp [keys]; try rfl) ?_) | (refine heapK_mv hk2 G0F (B := 200) nilL_ok (fun k => k) (fun k hk => rfl) (by simp [ren, renA, renF, ren0, cfV]) (by simp) (by simp) (by simp [keys]) (by simp [keys]; try rfl) ?_) | (refine heapK_mv ho1 G0F (B := 200) nilL_ok (fun k => k) (fun k hk => rfl) (by simp [ren, renA, renF, ren0, cfV]) (by simp) (by simp) (by simp [keys]) (by simp [keys]; try rfl) ?_) | (refine heapK_mv ho2 G0F (B := 200) nilL_ok (fun k => k) (fun k hk => rfl) (by simp [ren, renA, renF, ren0, cfV]) (by simp) (by simp) (by simp [keys]) (by simp [keys]; try rfl) ?_) | (refine heapK_mv he1 G0F (B := 200) nilL_ok (fun k => k) (fun k hk => rfl) (by simp [ren, renA, renF, ren0, cfV]) (by simp) (by simp) (by simp [keys]) (by simp [keys]; try rfl) ?_) | (refine heapK_mv he2 G0F (B := 200) nilL_ok (fun k => k) (fun k hk => rfl) (by simp [ren, renA, renF, ren0, cfV]) (by simp) (by simp) (by simp [keys]) (by simp [keys]; try rfl) ?_)); try simp [hC, hY, great00K, wk, P1, P2, N1, N2, O1, O2, wi_zero])); refine hQ _ _ _ _ (by kernel_rfl) ?_; clear hQ hP Q) | (refine gwC ?_ ?_ <;> (intro hb; first | (cases hb; done) | skip)))
 refine ⟨.inr trivial, ?_⟩
 simp [Tryz.results3]
set_option maxRecDepth 8000 in
set_option maxHeartbeats 8000000 in
theorem EnergyTells_0s (b : Blk) (off n cap : Nat) (f : Nat → Int) (h : SB b off n f) (hcap : n ≤ cap) (g bx tp nr md st u m w q lo hi a : Int) (hg : i64 g) (hbx : i64 bx) (htp : i64 tp) (hnr : i64 nr) (hmd : i64 md) (hs : i64 st) (hu : i64 u) (hm9 : i64 m) (hw : i64 w) (hq : i64 q) :
  Fun Tryz.prog G0 3 #[cfV (.slice none 0 0) g bx tp nr md, .agg #[.int .i64 st, .slice (some ⟨100, off, none⟩) n cap], .int .i64 u, .int .i64 m, .int .i64 w, .int .i64 q, spV lo hi, wd a] (hpL G0 [(100, b)]) (keys [(100, b)]) (.ret (.bool true) []) := by
 refine fun_ofL (B := 200) G0F Tryz.func3 rfl Tryz.call3 (oneL_ok h.fx) ?_ (by simp) (by simp) (by simp) (by simp [Tryz.ntmps3]) (by omega) ?_
 ·simp [idsV, idsA, idsF, ids0, keys, cfV, spV]
 intro C hC hC0 hY
 have hr := fun ρ => Blk.fx_rn h.fx ρ
 have hgr := great_0s b off n cap f h g bx tp nr md st
 have hk1 := ekin_0s b off n cap f h g bx tp nr md st
 have hk2 := rkin_0s b off n cap f h g bx tp nr md st
 have ho1 := epot_0s b off n cap f h g bx tp nr md st
 have ho2 := rpot_0s b off n cap f h g bx tp nr md st
 have he1 := een_0s b off n cap f h g bx tp nr md st
 have he2 := ren_0s b off n cap f h g bx tp nr md st
 have wk := wakes22_of wakes22_ret
 obtain ⟨p1, p2, p3, hp1, hp2⟩ := pair_E u m w q
 have P1 := fun K => callK_iff (K := K) G0W (by kernel_rfl) hp1
 have P2 := fun K => callK_iff (K := K) G0W (by kernel_rfl) hp2
 obtain ⟨y1, y2, hn1, hn2⟩ := width_E lo hi
 have N1 := fun K => callK_iff (K := K) G0W (by kernel_rfl) hn1
 have N2 := fun K => callK_iff (K := K) G0W (by kernel_rfl) hn2
 have O1 := fun K => callK_iff (K := K) G0W (by kernel_rfl) (eholds_ret lo hi a)
 have O2 := fun K => callK_iff (K := K) G0W (by kernel_rfl) (rholds_ret lo hi a)
 generalize holdB lo hi a = hb at *
 unfold spV at N1 N2
 unfold spV wd at O1 O2
 unfold spV at ho1 ho2 he1 he2 ⊢
 unfold cfV
 cases hq9 : decide (9 < n) with
 | true =>
  rw [hq9] at hgr
  repeat' (first | refine gwA ?_ | ((first | refine gwR [5, 9, 10, 11, 12, 13, 14] ?_ | refine gwD [5, 9, 10, 11, 12, 13, 14] ?_); intro Q hQ hP; simp [hC, hY, wk, P1, P2, N1, N2, O1, O2, wi_zero]; (repeat ((first | (refine heapK_mv hgr G0F (B := 200) (oneL_ok h.fx) (fun k => k) (fun k hk => rfl) (by simp [ren, renA, renF, ren0, cfV]) (by simp) (by simp [hr]) (by simp [keys]) (by simp [keys]; try rfl) ?_) | (refine heapK_mv hk1 G0F (B := 200) (oneL_ok h.fx) (fun k => k) (fun k hk => rfl) (by simp [ren, renA, renF, ren0, cfV]) (by simp) (by simp [hr]) (by simp [keys]) (by simp [keys]; try rfl) ?_) | (refine heapK_mv hk2 G0F (B := 200) (oneL_ok h.fx) (fun k => k) (fun k hk => rfl) (by simp [ren, renA, renF, ren0, cfV]) (by simp) (by simp [hr]) (by simp [keys]) (by simp [keys]; try rfl) ?_) | (refine heapK_mv ho1 G0F (B := 200) (oneL_ok h.fx) (fun k => k) (fun k hk => rfl) (by simp [ren, renA, renF, ren0, cfV]) (by simp) (by simp [hr]) (by simp [keys]) (by simp [keys]; try rfl) ?_) | (refine heapK_mv ho2 G0F (B := 200) (oneL_ok h.fx) (fun k => k) (fun k hk => rfl) (by simp [ren, renA, renF, ren0, cfV]) (by simp) (by simp [hr]) (by simp [keys]) (by simp [keys]; try rfl) ?_) | (refine heapK_mv he1 G0F (B := 200) (oneL_ok h.fx) (fun k => k) (fun k hk => rfl) (by simp [ren, renA, renF, ren0, cfV]) (by simp) (by simp [hr]) (by simp [keys]) (by simp [keys]; try rfl) ?_) | (refine heapK_mv he2 G0F (B := 200) (oneL_ok h.fx) (fun k => k) (fun k hk => rfl) (by simp [ren, renA, renF, ren0, cfV]) (by simp) (by simp [hr]) (by simp [keys]) (by simp [keys]; try rfl) ?_)); try simp [hC, hY, wk, P1, P2, N1, N2, O1, O2, wi_zero])); refine hQ _ _ _ _ (by kernel_rfl) ?_; clear hQ hP Q) | (refine gwC ?_ ?_ <;> (intro hb; first | (cases hb; done) | skip)))
  refine ⟨.inr rfl, by simp [Tryz.results3], kpS G0F⟩
 | false =>
  rw [hq9] at hgr
  repeat' (first | refine gwA ?_ | ((first | refine gwR [5, 9, 10, 11, 12, 13, 14] ?_ | refine gwD [5, 9, 10, 11, 12, 13, 14] ?_); intro Q hQ hP; simp [hC, hY, wk, P1, P2, N1, N2, O1, O2, wi_zero]; (repeat ((first | (refine heapK_mv hgr G0F (B := 200) (oneL_ok h.fx) (fun k => k) (fun k hk => rfl) (by simp [ren, renA, renF, ren0, cfV]) (by simp) (by simp [hr]) (by simp [keys]) (by simp [keys]; try rfl) ?_) | (refine heapK_mv hk1 G0F (B := 200) (oneL_ok h.fx) (fun k => k) (fun k hk => rfl) (by simp [ren, renA, renF, ren0, cfV]) (by simp) (by simp [hr]) (by simp [keys]) (by simp [keys]; try rfl) ?_) | (refine heapK_mv hk2 G0F (B := 200) (oneL_ok h.fx) (fun k => k) (fun k hk => rfl) (by simp [ren, renA, renF, ren0, cfV]) (by simp) (by simp [hr]) (by simp [keys]) (by simp [keys]; try rfl) ?_) | (refine heapK_mv ho1 G0F (B := 200) (oneL_ok h.fx) (fun k => k) (fun k hk => rfl) (by simp [ren, renA, renF, ren0, cfV]) (by simp) (by simp [hr]) (by simp [keys]) (by simp [keys]; try rfl) ?_) | (refine heapK_mv ho2 G0F (B := 200) (oneL_ok h.fx) (fun k => k) (fun k hk => rfl) (by simp [ren, renA, renF, ren0, cfV]) (by simp) (by simp [hr]) (by simp [keys]) (by simp [keys]; try rfl) ?_) | (refine heapK_mv he1 G0F (B := 200) (oneL_ok h.fx) (fun k => k) (fun k hk => rfl) (by simp [ren, renA, renF, ren0, cfV]) (by simp) (by simp [hr]) (by simp [keys]) (by simp [keys]; try rfl) ?_) | (refine heapK_mv he2 G0F (B := 200) (oneL_ok h.fx) (fun k => k) (fun k hk => rfl) (by simp [ren, renA, renF, ren0, cfV]) (by simp) (by simp [hr]) (by simp [keys]) (by simp [keys]; try rfl) ?_)); try simp [hC, hY, wk, P1, P2, N1, N2, O1, O2, wi_zero])); refine hQ _ _ _ _ (by kernel_rfl) ?_; clear hQ hP Q) | (refine gwC ?_ ?_ <;> (intro hb; first | (cases hb; done) | skip)))
  refine ⟨.inr rfl, by simp [Tryz.results3], kpS G0F⟩
set_option maxRecDepth 8000 in
set_option maxHeartbeats 8000000 in
theorem EnergyTells_s0 (b : Blk) (off n cap : Nat) (f : Nat → Int) (h : MB b off n f) (hcap : n ≤ cap) (g bx tp nr md st u m w q lo hi a : Int) (hg : i64 g) (hbx : i64 bx) (htp : i64 tp) (hnr : i64 nr) (hmd : i64 md) (hs : i64 st) (hu : i64 u) (hm9 : i64 m) (hw : i64 w) (hq : i64 q) :
  Fun Tryz.prog G0 3 #[cfV (.slice (some ⟨100, off, none⟩) n cap) g bx tp nr md, .agg #[.int .i64 st, .slice none 0 0], .int .i64 u, .int .i64 m, .int .i64 w, .int .i64 q, spV lo hi, wd a] (hpL G0 [(100, b)]) (keys [(100, b)]) (.ret (.bool true) []) := by
 refine fun_ofL (B := 200) G0F Tryz.func3 rfl Tryz.call3 (oneL_ok h.fx) ?_ (by simp) (by simp) (by simp) (by simp [Tryz.ntmps3]) (by omega) ?_
 ·simp [idsV, idsA, idsF, ids0, keys, cfV, spV]
 intro C hC hC0 hY
 have hr := fun ρ => Blk.fx_rn h.fx ρ
 have hgr := great_s0 b off n cap f h g bx tp nr md st
 have hk1 := ekin_s0 b off n cap f h g bx tp nr md st
 have hk2 := rkin_s0 b off n cap f h g bx tp nr md st
 have ho1 := epot_s0 b off n cap f h g bx tp nr md st
 have ho2 := rpot_s0 b off n cap f h g bx tp nr md st
 have he1 := een_s0 b off n cap f h g bx tp nr md st
 have he2 := ren_s0 b off n cap f h g bx tp nr md st
 have wk := wakes22_of wakes22_ret
 obtain ⟨p1, p2, p3, hp1, hp2⟩ := pair_E u m w q
 have P1 := fun K => callK_iff (K := K) G0W (by kernel_rfl) hp1
 have P2 := fun K => callK_iff (K := K) G0W (by kernel_rfl) hp2
 obtain ⟨y1, y2, hn1, hn2⟩ := width_E lo hi
 have N1 := fun K => callK_iff (K := K) G0W (by kernel_rfl) hn1
 have N2 := fun K => callK_iff (K := K) G0W (by kernel_rfl) hn2
 have O1 := fun K => callK_iff (K := K) G0W (by kernel_rfl) (eholds_ret lo hi a)
 have O2 := fun K => callK_iff (K := K) G0W (by kernel_rfl) (rholds_ret lo hi a)
 generalize holdB lo hi a = hb at *
 unfold spV at N1 N2
 unfold spV wd at O1 O2
 unfold spV at ho1 ho2 he1 he2 ⊢
 unfold cfV
 cases hq9 : decide (9 < n) with
 | true =>
  rw [hq9] at hgr
  repeat' (first | refine gwA ?_ | ((first | refine gwR [5, 9, 10, 11, 12, 13, 14] ?_ | refine gwD [5, 9, 10, 11, 12, 13, 14] ?_); intro Q hQ hP; simp [hC, hY, wk, P1, P2, N1, N2, O1, O2, wi_zero]; (repeat ((first | (refine heapK_mv hgr G0F (B := 200) (oneL_ok h.fx) (fun k => k) (fun k hk => rfl) (by simp [ren, renA, renF, ren0, cfV]) (by simp) (by simp [hr]) (by simp [keys]) (by simp [keys]; try rfl) ?_) | (refine heapK_mv hk1 G0F (B := 200) (oneL_ok h.fx) (fun k => k) (fun k hk => rfl) (by simp [ren, renA, renF, ren0, cfV]) (by simp) (by simp [hr]) (by simp [keys]) (by simp [keys]; try rfl) ?_) | (refine heapK_mv hk2 G0F (B := 200) (oneL_ok h.fx) (fun k => k) (fun k hk => rfl) (by simp [ren, renA, renF, ren0, cfV]) (by simp) (by simp [hr]) (by simp [keys]) (by simp [keys]; try rfl) ?_) | (refine heapK_mv ho1 G0F (B := 200) (oneL_ok h.fx) (fun k => k) (fun k hk => rfl) (by simp [ren, renA, renF, ren0, cfV]) (by simp) (by simp [hr]) (by simp [keys]) (by simp [keys]; try rfl) ?_) | (refine heapK_mv ho2 G0F (B := 200) (oneL_ok h.fx) (fun k => k) (fun k hk => rfl) (by simp [ren, renA, renF, ren0, cfV]) (by simp) (by simp [hr]) (by simp [keys]) (by simp [keys]; try rfl) ?_) | (refine heapK_mv he1 G0F (B := 200) (oneL_ok h.fx) (fun k => k) (fun k hk => rfl) (by simp [ren, renA, renF, ren0, cfV]) (by simp) (by simp [hr]) (by simp [keys]) (by simp [keys]; try rfl) ?_) | (refine heapK_mv he2 G0F (B := 200) (oneL_ok h.fx) (fun k => k) (fun k hk => rfl) (by simp [ren, renA, renF, ren0, cfV]) (by simp) (by simp [hr]) (by simp [keys]) (by simp [keys]; try rfl) ?_)); try simp [hC, hY, wk, P1, P2, N1, N2, O1, O2, wi_zero])); refine hQ _ _ _ _ (by kernel_rfl) ?_; clear hQ hP Q) | (refine gwC ?_ ?_ <;> (intro hb; first | (cases hb; done) | skip)))
  refine ⟨.inr rfl, by simp [Tryz.results3], kpS G0F⟩
 | false =>
  rw [hq9] at hgr
  repeat' (first | refine gwA ?_ | ((first | refine gwR [5, 9, 10, 11, 12, 13, 14] ?_ | refine gwD [5, 9, 10, 11, 12, 13, 14] ?_); intro Q hQ hP; simp [hC, hY, wk, P1, P2, N1, N2, O1, O2, wi_zero]; (repeat ((first | (refine heapK_mv hgr G0F (B := 200) (oneL_ok h.fx) (fun k => k) (fun k hk => rfl) (by simp [ren, renA, renF, ren0, cfV]) (by simp) (by simp [hr]) (by simp [keys]) (by simp [keys]; try rfl) ?_) | (refine heapK_mv hk1 G0F (B := 200) (oneL_ok h.fx) (fun k => k) (fun k hk => rfl) (by simp [ren, renA, renF, ren0, cfV]) (by simp) (by simp [hr]) (by simp [keys]) (by simp [keys]; try rfl) ?_) | (refine heapK_mv hk2 G0F (B := 200) (oneL_ok h.fx) (fun k => k) (fun k hk => rfl) (by simp [ren, renA, renF, ren0, cfV]) (by simp) (by simp [hr]) (by simp [keys]) (by simp [keys]; try rfl) ?_) | (refine heapK_mv ho1 G0F (B := 200) (oneL_ok h.fx) (fun k => k) (fun k hk => rfl) (by simp [ren, renA, renF, ren0, cfV]) (by simp) (by simp [hr]) (by simp [keys]) (by simp [keys]; try rfl) ?_) | (refine heapK_mv ho2 G0F (B := 200) (oneL_ok h.fx) (fun k => k) (fun k hk => rfl) (by simp [ren, renA, renF, ren0, cfV]) (by simp) (by simp [hr]) (by simp [keys]) (by simp [keys]; try rfl) ?_) | (refine heapK_mv he1 G0F (B := 200) (oneL_ok h.fx) (fun k => k) (fun k hk => rfl) (by simp [ren, renA, renF, ren0, cfV]) (by simp) (by simp [hr]) (by simp [keys]) (by simp [keys]; try rfl) ?_) | (refine heapK_mv he2 G0F (B := 200) (oneL_ok h.fx) (fun k => k) (fun k hk => rfl) (by simp [ren, renA, renF, ren0, cfV]) (by simp) (by simp [hr]) (by simp [keys]) (by simp [keys]; try rfl) ?_)); try simp [hC, hY, wk, P1, P2, N1, N2, O1, O2, wi_zero])); refine hQ _ _ _ _ (by kernel_rfl) ?_; clear hQ hP Q) | (refine gwC ?_ ?_ <;> (intro hb; first | (cases hb; done) | skip)))
  refine ⟨.inr rfl, by simp [Tryz.results3], kpS G0F⟩
end Go.Gy
