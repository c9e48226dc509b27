/-
  Lemmas of this claim, in their order (GyNE, GyNH, GyNG, GyCG, GyNS, GyNN, GyNF, GyNJ, GyNK, GyNL, GyWI).
  Conditions: those of each theorem.
-/
import Derived.Test.YtlageemaenplfaaDoorGz06
namespace Go.Gy
set_option linter.unusedSimpArgs false
set_option linter.unusedVariables false
open Go Go.RowKit Go.Proofs
def nearL (ok : Bool) (nr : Int) (l : List Pr) : List Pr := l.filter fun p => nearB ok nr p.2.2
def cntN (ok : Bool) (nr : Int) (l : List Pr) (i : Nat) : Nat := (nearL ok nr (l.take i)).length
theorem cnt_0 {ok : Bool} {nr : Int} {l : List Pr} : cntN ok nr l 0 = 0 := by simp [cntN, nearL]
theorem cnt_all {ok : Bool} {nr : Int} {l : List Pr} : cntN ok nr l l.length = (nearL ok nr l).length := by simp [cntN]
theorem cnt_le {ok : Bool} {nr : Int} {l : List Pr} {i : Nat} : cntN ok nr l i ≤ l.length := by
  unfold cntN nearL
  refine Nat.le_trans (List.length_filter_le _ _) ?_
  simp
  omega
theorem take_s {l : List Pr} {i : Nat} (hi : i < l.length) : l.take (i + 1) = l.take i ++ [l[i]] := by simp
theorem cnt_t {ok : Bool} {nr : Int} {l : List Pr} {i : Nat} (hi : i < l.length) (h : nearB ok nr (pF l (3 * i + 2)) = true) : cntN ok nr l (i + 1) = cntN ok nr l i + 1 := by
  have e : l[i]? = some l[i] := by simp [hi]
  rw [(pF_at e).2.2] at h
  unfold cntN nearL
  rw [take_s hi, List.filter_append]
  simp [h]
theorem cnt_f {ok : Bool} {nr : Int} {l : List Pr} {i : Nat} (hi : i < l.length) (h : nearB ok nr (pF l (3 * i + 2)) = false) : cntN ok nr l (i + 1) = cntN ok nr l i := by
  have e : l[i]? = some l[i] := by simp [hi]
  rw [(pF_at e).2.2] at h
  unfold cntN nearL
  rw [take_s hi, List.filter_append]
  simp [h]
theorem near_get {ok : Bool} {nr : Int} {l : List Pr} {i : Nat} (hi : i < l.length) (h : nearB ok nr (pF l (3 * i + 2)) = true) : (nearL ok nr l)[cntN ok nr l i]? = some l[i] := by
  have e : l[i]? = some l[i] := by simp [hi]
  rw [(pF_at e).2.2] at h
  have hl : nearL ok nr l = nearL ok nr (l.take i) ++ l[i] :: nearL ok nr (l.drop (i + 1)) := by
    have h1 : l = l.take i ++ l[i] :: l.drop (i + 1) := by simp
    have h2 : nearL ok nr l = nearL ok nr (l.take i ++ l[i] :: l.drop (i + 1)) := congrArg _ h1
    rw [h2]
    unfold nearL
    rw [List.filter_append, List.filter_cons_of_pos (by simpa using h)]
  rw [hl]
  unfold cntN
  simp
theorem near_pF {ok : Bool} {nr : Int} {l : List Pr} {i u : Nat} (hi : i < l.length) (h : nearB ok nr (pF l (3 * i + 2)) = true) (hu : u < 3) : pF l (3 * i + u) = pF (nearL ok nr l) (3 * cntN ok nr l i + u) := by
  have e : l[i]? = some l[i] := by simp [hi]
  obtain ⟨a0, a1, a2⟩ := pF_at e
  obtain ⟨b0, b1, b2⟩ := pF_at (near_get hi h)
  obtain rfl | rfl | rfl : u = 0 ∨ u = 1 ∨ u = 2 := by omega
  · rw [Nat.add_zero, Nat.add_zero, a0, b0]
  · rw [a1, b1]
  · rw [a2, b2]
def PairsR2 (nk nb : Nat) (st : Int) (off n cap : Nat) (v : Value) (ns : List (Nat × Blk)) : Prop := v = .func (.func 41) #[] #[.pointer (some ⟨nk, 0, none⟩)] ∧ ns = [(nk, stB' st nb off n cap)]
theorem pairsR2_rr {nk nb off n cap : Nat} {st : Int} : RR (nn2 nb nk) (PairsR 1000 st off n cap) = PairsR2 nk nb st off n cap := by
  funext v ns
  apply propext
  constructor
  · rintro ⟨v0, ns0, ⟨rfl, rfl⟩, rfl, rfl⟩
    exact ⟨by simp [ren, renA, renF, ren0, nn2_k], by simp [rnL, stB'_rn, nn2_b, nn2_k]⟩
  · rintro ⟨rfl, rfl⟩
    exact ⟨_, _, ⟨rfl, rfl⟩, by simp [ren, renA, renF, ren0, nn2_k], by simp [rnL, stB'_rn, nn2_b, nn2_k]⟩
def ncL (bm bs : Blk) : List (Nat × Blk) := [(100, bm), (108, bs)]
theorem ncL_ok {bm bs : Blk} (hm : bm.fx) (hs : bs.fx) : LOk (ncL bm bs) 200 := ⟨by simp [ncL], by simp [ncL, keys], by
  simp only [ncL, List.mem_cons, List.not_mem_nil, or_false, forall_eq_or_imp, forall_eq]
  exact ⟨Blk.fx_ids hm _, Blk.fx_ids hs _⟩⟩
def nnTs : List (Nat × Value) := [(4, .pointer (some ⟨216, 0, none⟩)), (5, .pointer (some ⟨240, 0, none⟩))]
def clB (k1 k2 : Nat) : Blk := ⟨#[.func (.func 43) #[] #[.pointer (some ⟨k1, 0, none⟩), .pointer (some ⟨k2, 0, none⟩)]], .ty 61⟩
theorem clB_rn {k1 k2 : Nat} {ρ : Nat → Nat} : (clB k1 k2).rn ρ = clB (ρ k1) (ρ k2) := by simp [clB, Blk.rn, renF, ren0]
def fzB (cq : Array Value) : Blk := ⟨cq, .raw 24 (0, 0)⟩
theorem fzB_rn {cq : Array Value} {ρ : Nat → Nat} : (fzB cq).rn ρ = fzB cq := rfl
theorem fzB_ids {cq : Array Value} {D : Nat → Prop} : (fzB cq).ids D := trivial
def cfzL (cq : Array Value) (ok : Bool) : List (Nat × Blk) := [(108, fzB cq), (116, bB ok)]
theorem cfzL_ok (cq : Array Value) (ok : Bool) : LOk (cfzL cq ok) 200 := ⟨by simp [cfzL], by simp [cfzL, keys], by
  simp only [cfzL, List.mem_cons, List.not_mem_nil, or_false, forall_eq_or_imp, forall_eq]
  exact ⟨fzB_ids, by simp [bB, ids_lit, idsF, ids0]⟩⟩
theorem fz_ld {cq : Array Value} {nr : Int} (h4 : cq[4]? = some (.int .i64 nr)) : loadK Tryd.prog 3 ⟨cq, .raw 24 (0, 0)⟩ 4 = some (.int .i64 nr) := by
  unfold loadK
  simp [h4, flatV, flatF, flat0]
theorem cl1_fz (cq : Array Value) (nr : Int) (hs : cq.size = 6) (h4 : cq[4]? = some (.int .i64 nr)) (ok : Bool) (i j sq : Int) :
    Fun Tryd.prog G0 43 #[.agg #[.int .i64 i, .int .i64 j, .int .i64 sq], .pointer (some ⟨116, 0, none⟩), .pointer (some ⟨108, 0, none⟩)] (hpL G0 (cfzL cq ok)) (keys (cfzL cq ok)) (.ret (.bool (nearB ok nr sq)) []) := by
  refine fun_ofL (B := 200) G0F Tryd.func43 rfl Tryd.call43 (cfzL_ok cq ok) ?_ (by simp) (by simp) (by simp) (by simp [Tryd.ntmps43]) (by omega) ?_
  · simp [idsV, idsA, idsF, ids0, keys, cfzL]
  intro C hC hC0 hY
  unfold cfzL fzB bB nearB
  have hld := fz_ld h4
  cases ok with
  | false =>
    repeat' (first | refine gwS ?_ | simp only [wN, wM, Nat.reduceAdd, Nat.reduceMul] | ((first | refine gwR [] ?_ | refine gwD [] ?_); intro Q hQ hP; simp [hC, hY]; (first | refine hQ _ _ _ _ (by kernel_rfl) ?_ | refine hP _ _ (by kernel_rfl) fun _ => ?_); clear hQ hP Q) | refine gwB ?_ | refine gwT ?_ | refine gwK ?_ | refine gwE ?_ | refine gwG ?_ | refine gwL ?_ | simp only [blockG_exit] | (refine gwC ?_ ?_ <;> (intro hb; first | (cases hb; done) | skip)))
    refine ⟨.inr rfl, by simp [Tryd.results43], keep_of G0F (by simp) (by (intro k hk; first | rfl | (simp (disch := omega) only [addB, List.mem_cons, List.not_mem_nil, or_false, upd_other, hpL_cons, hpL_nil, if_neg, updL] <;> done)))⟩
  | true =>
    by_cases c : sq < Int.bmod (nr * nr) 18446744073709551616
    · have e : decide (sq < Int.bmod (nr * nr) 18446744073709551616) = true := decide_eq_true c
      rw [e]
      repeat' (first | refine gwS ?_ | simp only [wN, wM, Nat.reduceAdd, Nat.reduceMul] | ((first | refine gwR [] ?_ | refine gwD [] ?_); intro Q hQ hP; simp [hC, hY, c, e, hld]; (first | refine hQ _ _ _ _ (by kernel_rfl) ?_ | refine hP _ _ (by kernel_rfl) fun _ => ?_); clear hQ hP Q) | refine gwB ?_ | refine gwT ?_ | refine gwK ?_ | refine gwE ?_ | refine gwG ?_ | refine gwL ?_ | simp only [blockG_exit] | (refine gwC ?_ ?_ <;> (intro hb; first | (cases hb; done) | skip)))
      refine ⟨.inr rfl, by simp [Tryd.results43], keep_of G0F (by simp) (by (intro k hk; first | rfl | (simp (disch := omega) only [addB, List.mem_cons, List.not_mem_nil, or_false, upd_other, hpL_cons, hpL_nil, if_neg, updL] <;> done)))⟩
    · have e : decide (sq < Int.bmod (nr * nr) 18446744073709551616) = false := decide_eq_false c
      rw [e]
      repeat' (first | refine gwS ?_ | simp only [wN, wM, Nat.reduceAdd, Nat.reduceMul] | ((first | refine gwR [] ?_ | refine gwD [] ?_); intro Q hQ hP; simp [hC, hY, c, e, hld]; (first | refine hQ _ _ _ _ (by kernel_rfl) ?_ | refine hP _ _ (by kernel_rfl) fun _ => ?_); clear hQ hP Q) | refine gwB ?_ | refine gwT ?_ | refine gwK ?_ | refine gwE ?_ | refine gwG ?_ | refine gwL ?_ | simp only [blockG_exit] | (refine gwC ?_ ?_ <;> (intro hb; first | (cases hb; done) | skip)))
      refine ⟨.inr rfl, by simp [Tryd.results43], keep_of G0F (by simp) (by (intro k hk; first | rfl | (simp (disch := omega) only [addB, List.mem_cons, List.not_mem_nil, or_false, upd_other, hpL_cons, hpL_nil, if_neg, updL] <;> done)))⟩
def nnM (cq : Array Value) (ok : Bool) (sl : Value) (ns : List (Nat × Blk)) : List (Nat × Blk) := (216, ⟨#[sl], .ty 32⟩) :: (232, fzB cq) :: (233, bB ok) :: (240, clB 233 232) :: ns
def nnI (cq : Array Value) (nr : Int) (ok : Bool) (l : List Pr) (i : Nat) (h : Hp) : Prop := ∃ sl ns, PrR 290 (cntN ok nr l i) (pF (nearL ok nr l)) sl ns ∧ h = hpL G0 (nnM cq ok sl ns)
theorem addB_in {asd : List Nat} {f g : Hp} {k : Nat} (h : k ∈ asd) : addB asd f g k = f k := if_pos h
theorem addB_out {asd : List Nat} {f g : Hp} {k : Nat} (h : k ∉ asd) : addB asd f g k = g k := if_neg h
theorem hpL_out {G : Hp} : ∀ {L : List (Nat × Blk)} {k : Nat}, k ∉ keys L → hpL G L k = G k
  | [], _, _ => rfl
  | (q, c) :: L, k, h => by
    simp only [keys, List.map_cons, List.mem_cons, not_or] at h
    rw [hpL_cons, if_neg h.1]
    exact hpL_out h.2
theorem asd_hp {L : List (Nat × Blk)} (hL : LOk L 200) {k0 : Nat} (h0 : 100 ≤ k0) : (fun k => if k ∈ k0 :: keys L then none else hpL G0 L k) = hpL G0 [] := by
  funext k
  simp only [hpL_nil]
  split
  · rename_i hm
    rcases List.mem_cons.1 hm with rfl | hm
    · exact (G0_big _ h0).symm
    · obtain ⟨p, hp, rfl⟩ := mem_keys.1 hm
      exact (G0_big _ (hL.big p hp).1).symm
  · rename_i hm
    exact hpL_out fun h => hm (List.mem_cons_of_mem _ h)
theorem nnM_none {cq : Array Value} {ok : Bool} {sl : Value} {ns : List (Nat × Blk)} {k : Nat} (h1 : 100 ≤ k) (h2 : k < 200) (hns : ∀ q ∈ ns, 200 ≤ q.1) : hpL G0 (nnM cq ok sl ns) k = none := by
  rw [hpL_out]
  · exact G0_big k h1
  · intro hm
    obtain ⟨p, hp, rfl⟩ := mem_keys.1 hm
    simp only [nnM, List.mem_cons] at hp
    rcases hp with rfl | rfl | rfl | rfl | hp
    · omega
    · omega
    · omega
    · omega
    · have := hns p hp; omega
set_option maxRecDepth 8000 in
set_option maxHeartbeats 4000000 in
theorem nNear_L (L : List (Nat × Blk)) (ks : Nat) (bm bs : Blk) (hT : LTwo G0 L ks bm bs) (off n cap off2 n2 cap2 : Nat) (fm fs : Nat → Int) (hm : MB bm off n fm) (hSb : SB bs off2 n2 fs) (hcap : n2 ≤ cap2) (g bx tp nr md st : Int) (hs : i64 st) :
    FunS Tryd.prog G0 10 #[cfV (.slice (some ⟨100, off, none⟩) n cap) g bx tp nr md, .agg #[.int .i64 st, .slice (some ⟨ks, off2, none⟩) n2 cap2]] (hpL G0 L) (keys L)
      (PrR 1000 (nearL (cfOk n fm g bx tp nr md) nr (prs st fs n2)).length (pF (nearL (cfOk n fm g bx tp nr md) nr (prs st fs n2)))) := by
  refine newS_ofL (B := 200) G0F Tryd.func10 rfl Tryd.call10 hT.ok ?_ (prR_fit (by omega)) (by simp [Tryd.ntmps10]) (by omega) ?_
  · simp [idsV, idsA, idsF, ids0, hT.ia, hT.ib, cfV]
  intro C hC hC0 hY
  have hA := hT.a
  have hS := hT.s
  have hne := hT.ne
  have hne' : ∀ k, 200 ≤ k → (k = ks) = False := fun k hk => by rw [← hne k hk]; exact propext ⟨Eq.symm, Eq.symm⟩
  have hLow := hT.low
  have hks := hT.k1
  have hks2 := hT.k2
  have hidm := fun D => Blk.fx_ids hm.fx D
  have hids := fun D => Blk.fx_ids hSb.fx D
  have hrm := fun ρ => Blk.fx_rn hm.fx ρ
  have hrs := fun ρ => Blk.fx_rn hSb.fx ρ
  have hln := prs_len st fs n2
  obtain ⟨ok, hok⟩ : ∃ ok, cfOk n fm g bx tp nr md = ok := ⟨_, rfl⟩
  have hcl := close_at 232 (by omega) bm off n cap fm hm g bx tp nr md
  rw [hok] at hcl ⊢
  obtain ⟨l, hl⟩ : ∃ l, prs st fs n2 = l := ⟨_, rfl⟩
  have hit := pairs_it bs off2 n2 cap2 fs hSb hcap st hs
  rw [hl] at hit hln ⊢
  have hasd : ∀ C0 : Ctx, (C0.hp0 = fun k => if k ∈ 264 :: keys L then none else C.hp0 k) → C0.hp0 = hpL G0 [] := fun C0 h0 => by
    rw [h0, hC0]
    exact asd_hp hT.ok (by omega)
  unfold cfV
  repeat' (first | refine gwS ?_ | simp only [wN, wM, Nat.reduceAdd, Nat.reduceMul] | ((first | refine gwR [] ?_ | refine gwD [] ?_); intro Q hQ hP; simp [hC, hY, hA, hS, hne]; (first | refine hQ _ _ _ _ (by kernel_rfl) ?_ | refine hP _ _ (by kernel_rfl) fun _ => ?_); clear hQ hP Q) | refine gwB ?_ | refine gwT ?_ | refine gwK ?_ | refine gwE ?_ | refine gwG ?_ | refine gwL ?_ | simp only [blockG_exit] | (refine gwC ?_ ?_ <;> (intro hb; first | (cases hb; done) | skip)))
  refine GW_list ?_
  simp only [Array.toList]
  refine GL_walk 1 [] rfl (by simp) (by kernel_rfl) ?_; intro q hq; simp [hC, hY, hA, hS, hne]; refine hq _ _ _ _ ?_; clear hq q
  simp only [wT, List.length_cons, List.length_nil, Nat.reduceAdd]
  refine GL_callL (f := .func 27) (cap := #[]) hC hcl rfl (by simp) rfl rfl (by simp [okT]) (by simp [gev]) (by simp) (by simp [okX, junk]) (by simp [gev, cfV]) (by simp [hA]) (by (intro k hk; first | exact hLow k hk | (simp (disch := omega) only [hLow, addB, List.mem_cons, List.not_mem_nil, or_false, upd_other, hpL_cons, hpL_nil, if_neg, updL, List.cons_append, List.nil_append] <;> done))) (fun v ns hV k hk => by have := closeR_key hV k hk; omega) ?_
  rintro v ns ⟨rfl, rfl⟩
  refine GL_walk 2 [] rfl (by simp) (by kernel_rfl) ?_; intro q hq; simp [hC, hY, putT, updL]; refine hq _ _ _ _ ?_; clear hq q
  simp only [wT, List.length_cons, List.length_nil, Nat.reduceAdd]
  refine GL_nil ?_
  repeat' (first | refine gwS ?_ | simp only [wN, wM, Nat.reduceAdd, Nat.reduceMul] | ((first | refine gwR [] ?_ | refine gwD [] ?_); intro Q hQ hP; simp [hC, hY, hA, hS, hne]; (first | refine hQ _ _ _ _ (by kernel_rfl) ?_ | refine hP _ _ (by kernel_rfl) fun _ => ?_); clear hQ hP Q) | refine gwB ?_ | refine gwT ?_ | refine gwK ?_ | refine gwE ?_ | refine gwG ?_ | refine gwL ?_ | simp only [blockG_exit] | (refine gwC ?_ ?_ <;> (intro hb; first | (cases hb; done) | skip)))
  refine GW_list ?_
  simp only [Array.toList]
  refine GL_walk 1 [] rfl (by simp) (by kernel_rfl) ?_; intro q hq; simp [hC, hY, hA, hS, hne]; refine hq _ _ _ _ ?_; clear hq q
  simp only [wT, List.length_cons, List.length_nil, Nat.reduceAdd]
  have hpr := (pairs_fun bs off2 n2 cap2 hSb.fx st).mvL (R' := PairsR2 264 ks st off2 n2 cap2) G0F (oneL_ok hSb.fx) (nn2 ks 264) nn2_low (args' := #[.agg #[.int .i64 st, .slice (some ⟨ks, off2, none⟩) n2 cap2]]) (rs' := [ks]) (hp' := hpL G0 [(ks, bs)]) (by simp [ren, renA, renF, ren0, nn2_b]) (by simp [keys, nn2_b]) pairsR2_rr (at_low hks) (by simp [nn2_b, hrs, hks]) (by simp [keys]) (fun v ns hV k hk => by rw [pairsR_key hV k hk, nn2_k]; simp [hne']) (fun v ns hV k hk l hl _ => by rw [pairsR_key hV k hk, pairsR_key hV l hl])
  refine GL_callL (f := .func 26) (cap := #[]) hC hpr rfl (by simp) rfl rfl (by simp [okT]) (by simp [gev]) (by simp) (by simp [okX, junk]) (by simp [gev]) (by simp [hS, hne]) (by (intro k hk; first | exact hLow k hk | (simp (disch := omega) only [hLow, addB, List.mem_cons, List.not_mem_nil, or_false, upd_other, hpL_cons, hpL_nil, if_neg, updL, List.cons_append, List.nil_append] <;> done))) (fun v ns hV k hk => by obtain ⟨_, rfl⟩ := hV; simp [keys] at hk; omega) ?_
  rintro v ns ⟨rfl, rfl⟩
  refine GL_nil ?_
  repeat' (first | refine gwS ?_ | simp only [wN, wM, Nat.reduceAdd, Nat.reduceMul] | ((first | refine gwR [] ?_ | refine gwD [] ?_); intro Q hQ hP; simp [hC, hY, putT, updL, hA, hS, hne]; (first | refine hQ _ _ _ _ (by kernel_rfl) ?_ | refine hP _ _ (by kernel_rfl) fun _ => ?_); clear hQ hP Q) | refine gwB ?_ | refine gwT ?_ | refine gwK ?_ | refine gwE ?_ | refine gwG ?_ | refine gwL ?_ | simp only [blockG_exit] | (refine gwC ?_ ?_ <;> (intro hb; first | (cases hb; done) | skip)))
  simp only [putT, updL]
  refine GW_freeze 232 (t := 24) (cs := #[.slice (some ⟨100, off, none⟩) n cap, .int .i64 g, .int .i64 bx, .int .i64 tp, .int .i64 nr, .int .i64 md]) (by simp [cfB]) (by omega) ?_
  intro cq hq1 hq2
  have hq4 : cq[4]? = some (.int .i64 nr) := hq2 4 _ rfl rfl
  have hq6 : cq.size = 6 := hq1
  refine GW_rangeK (f := 41) (rs := [264, ks]) (xs := prXs l) (caps := #[.pointer (some ⟨264, 0, none⟩)]) (264 :: keys L) hY (by simp) ?_ ?_ (by simp [Tryd.ntmps10]) (tsL nnTs) (tsL nnTs) (nnI cq nr ok l) (hpS := hpL G0 (nnM cq ok (.slice none 0 0) [])) 300 l.length (by rw [prXs_len]; exact Nat.le_refl _) (by simp [hT.ib]) ?_ ?_ ?_ ?_ ?_ (fun _ => .inl rfl) ?_ ?_
  · rw [hC]
    exact iterk_mv hit G0F (prL_ok hSb.fx st off2 n2 cap2) (pnk 264 ks 0) pnk_low (by simp [ren0, pnk]) (by simp [prL, keys, pnk]) (by (intro k hk; first | exact hLow k hk | (simp (disch := omega) only [hLow, addB, List.mem_cons, List.not_mem_nil, or_false, upd_other, hpL_cons, hpL_nil, if_neg, updL, List.cons_append, List.nil_append] <;> done))) (by simp [prL, pnk, stB'_rn, hrs, hne, hS, hks, upd]) (by simp [prL, keys, pnk, hne, hne'])
  · intro x hx
    simp [prXs] at hx
    obtain ⟨i, j, q, _, rfl⟩ := hx
    simp [prV]
  · intro k hk
    rcases List.mem_cons.1 hk with rfl | hk
    · simp [dom, upd]
    · obtain ⟨p, hp, rfl⟩ := mem_keys.1 hk
      have hpb := hT.ok.big p hp
      refine ⟨hpb.1, ?_⟩
      unfold dom
      dsimp only
      simp (disch := omega) only [addB, upd_other, hpL_cons, hpL_nil, if_neg, updL]
      rw [hT.mem p hp]
      simp
  · intro k hk b hb1
    rcases List.mem_cons.1 hk with rfl | hk
    · simp [upd] at hb1; subst hb1; simp [stB', ids_lit, idsF, ids0, hT.ib]
    · obtain ⟨p, hp, rfl⟩ := mem_keys.1 hk
      have hpb := hT.ok.big p hp
      dsimp only at hb1
      simp (disch := omega) only [addB, upd_other, hpL_cons, hpL_nil, if_neg, updL] at hb1
      rw [hT.mem p hp] at hb1
      simp only [Option.some.injEq] at hb1
      subst hb1
      exact Blk.fx_ids (hT.fx p hp) _
  · intro C0 h1 h2
    refine weakL _ 300 (h1.trans hC) G0F (m0 := []) (hasd C0 h2) (by omega) ?_ ?_ ?_
    · simp [nnTs, nnM, idsV, idsA, idsF, ids0, dom]
    · simp [nnM, fzB_ids, bB, clB, ids_lit, idsF, ids0, dom, upd]
      rfl
    · simp
  · exact ⟨_, _, .inl ⟨cnt_0, rfl, rfl⟩, rfl⟩
  · intro k hk
    rcases List.mem_cons.1 hk with rfl | hk
    · simp [nnM]
    · obtain ⟨p, hp, rfl⟩ := mem_keys.1 hk
      exact nnM_none (hT.ok.big p hp).1 (hT.ok.big p hp).2 (by simp)
  · intro i x hq0 hi hx hI C1 lb hC1 hh1 hY1
    obtain ⟨sl, ns, hV, rfl⟩ := hI
    rw [prXs_at _ _ hi] at hx
    simp only [Option.some.injEq] at hx
    subst hx
    have hCC := hC
    have hC1' : C1.G = G0 := hC1.trans hC
    have hcm : cntN ok nr l i ≤ 6 := Nat.le_trans cnt_le hln
    cases hq : nearB ok nr (pF l (3 * i + 2)) with
    | false =>
      have hct := cnt_f hi hq
      rcases hV with ⟨hc0, rfl, rfl⟩ | ⟨c, a, hi0, hic, hg, rfl, rfl⟩
      all_goals
        clear hC hY
        have hC := hC1'
        have hY := hY1
        unfold nnM
      all_goals
        repeat' (first | refine gwS ?_ | simp only [wN, wM, Nat.reduceAdd, Nat.reduceMul] | ((first | refine gwR [] ?_ | refine gwD [] ?_); intro Q hQ hP; simp [hC, hY, roundTs, nnTs]; (first | refine hQ _ _ _ _ (by kernel_rfl) ?_ | refine hP _ _ (by kernel_rfl) fun _ => ?_); clear hQ hP Q) | refine gwB ?_ | refine gwT ?_ | refine gwK ?_ | refine gwE ?_ | refine gwG ?_ | refine gwL ?_ | simp only [blockG_exit] | (refine gwC ?_ ?_ <;> (intro hb; first | (cases hb; done) | skip)))
      all_goals
        intro C2 hC2 hh2 hY2
        clear hC hY
        have hC : C2.G = G0 := hC2.trans hCC
        have hY := hY2
        unfold clB
        repeat' (first | refine gwS ?_ | simp only [wN, wM, Nat.reduceAdd, Nat.reduceMul] | ((first | refine gwR [43] ?_ | refine gwD [43] ?_); intro Q hQ hP; simp [hC, hY, hq, nnTs]; (repeat ((first | (refine heapK_mv (cl1_fz cq nr hq6 hq4 ok (pF l (3 * i)) (pF l (3 * i + 1)) (pF l (3 * i + 2))) G0F (B := 200) (cfzL_ok cq ok) (fun k => if k = 108 then 232 else if k = 116 then 233 else k) (fun k hk => (if_neg (by omega)).trans (if_neg (by omega))) (by simp [ren, renA, renF, ren0]) (by simp) (by simp [cfzL, fzB_rn, bB_rn]) (by simp [keys, cfzL]) (by simp [keys, cfzL]; rfl) ?_)); try simp [hC, hY, hq, nnTs])); (first | refine hQ _ _ _ _ (by kernel_rfl) ?_ | refine hP _ _ (by kernel_rfl) fun _ => ?_); clear hQ hP Q) | refine gwB ?_ | refine gwT ?_ | refine gwK ?_ | refine gwE ?_ | refine gwG ?_ | refine gwL ?_ | simp only [blockG_exit] | (refine gwC ?_ ?_ <;> (intro hb; first | (cases hb; done) | skip)))
      · refine ⟨fun k => k, _, fun C0 h1 h2 => weakRL _ _ 300 (h1.trans hCC) G0F (m0 := []) (hasd C0 h2) (by omega) ?_ ?_ ?_ ?_ ?_, ⟨_, _, .inl ⟨hct.trans hc0, rfl, rfl⟩, rfl⟩⟩
        · simp [nnTs, nnM, dom, junk, ren, renA, renF, ren0, idsV, idsA, idsF, ids0]
        · simp [nnM, fzB_rn, bB_rn, clB_rn]
          simp [fzB_ids, bB, clB, Blk.rn, renF, ren0, ids_lit, idsF, ids0, dom]
        · simp [nnM]
        · intro k hk; simp
        · simp [nnM, dom]
      · refine ⟨fun k => k, _, fun C0 h1 h2 => weakRL _ _ 300 (h1.trans hCC) G0F (m0 := []) (hasd C0 h2) (by omega) ?_ ?_ ?_ ?_ ?_, ⟨_, _, .inr ⟨c, a, by omega, by omega, by rw [hct]; exact hg, by rw [hct], rfl⟩, rfl⟩⟩
        · simp [nnTs, nnM, dom, junk, ren, renA, renF, ren0, idsV, idsA, idsF, ids0]
        · have hfi := fun D => Blk.fx_ids (fa_fx (3 * c) a 36) D
          simp [nnM, fa_rn, fzB_rn, bB_rn, clB_rn]
          simp [fzB_ids, bB, clB, Blk.rn, renF, ren0, ids_lit, idsF, ids0, dom, hfi]
        · simp [nnM]
        · intro k hk; simp
        · simp [nnM, dom]
    | true =>
      have hct := cnt_t hi hq
      have hev := fun u (hu : u < 3) => near_pF (u := u) hi hq hu
      obtain ⟨m, hme⟩ : ∃ m, cntN ok nr l i = m := ⟨_, rfl⟩
      rw [hme] at hV hct hev hcm
      rcases hV with ⟨rfl, rfl, rfl⟩ | ⟨c, a, hi0, hic, hg, rfl, rfl⟩
      all_goals
        clear hC hY
        have hC := hC1'
        have hY := hY1
        unfold nnM
      all_goals
        repeat' (first | refine gwS ?_ | simp only [wN, wM, Nat.reduceAdd, Nat.reduceMul] | ((first | refine gwR [] ?_ | refine gwD [] ?_); intro Q hQ hP; simp [hC, hY, roundTs, nnTs]; (first | refine hQ _ _ _ _ (by kernel_rfl) ?_ | refine hP _ _ (by kernel_rfl) fun _ => ?_); clear hQ hP Q) | refine gwB ?_ | refine gwT ?_ | refine gwK ?_ | refine gwE ?_ | refine gwG ?_ | refine gwL ?_ | simp only [blockG_exit] | (refine gwC ?_ ?_ <;> (intro hb; first | (cases hb; done) | skip)))
      all_goals
        intro C2 hC2 hh2 hY2
        clear hC hY
        have hC : C2.G = G0 := hC2.trans hCC
        have hY := hY2
        unfold clB
        repeat' (first | refine gwS ?_ | simp only [wN, wM, Nat.reduceAdd, Nat.reduceMul] | ((first | refine gwR [43] ?_ | refine gwD [43] ?_); intro Q hQ hP; simp [hC, hY, hq, nnTs]; (repeat ((first | (refine heapK_mv (cl1_fz cq nr hq6 hq4 ok (pF l (3 * i)) (pF l (3 * i + 1)) (pF l (3 * i + 2))) G0F (B := 200) (cfzL_ok cq ok) (fun k => if k = 108 then 232 else if k = 116 then 233 else k) (fun k hk => (if_neg (by omega)).trans (if_neg (by omega))) (by simp [ren, renA, renF, ren0]) (by simp) (by simp [cfzL, fzB_rn, bB_rn]) (by simp [keys, cfzL]) (by simp [keys, cfzL]; rfl) ?_)); try simp [hC, hY, hq, nnTs])); (first | refine hQ _ _ _ _ (by kernel_rfl) ?_ | refine hP _ _ (by kernel_rfl) fun _ => ?_); clear hQ hP Q) | refine gwB ?_ | refine gwT ?_ | refine gwK ?_ | refine gwE ?_ | refine gwG ?_ | refine gwL ?_ | simp only [blockG_exit] | (refine gwC ?_ ?_ <;> (intro hb; first | (cases hb; done) | skip)))
        refine GW_list ?_
        simp only [Array.toList]
        refine GL_walk 3 [] rfl (by simp) (by kernel_rfl) ?_; intro q hq; simp [hC, hY]; refine hq _ _ _ _ ?_; clear hq q
        simp only [wT, List.length_cons, List.length_nil, Nat.reduceAdd]
      · refine GL_push (m := 3) (i := 0) (j := 356) (by' := 24) (z := .agg #[.int .i64 0, .int .i64 0, .int .i64 0]) (T2 := .ty 36) (G := pF (nearL ok nr l)) (ev := fun u => pF l (3 * i + u)) rfl (by simp) rfl Tryd.underlying32 (tySize_of Tryd.sizeOf36) (by kernel_rfl) (by kernel_rfl) (by omega) (by simp [Value.cells]) (by simp [Value.cells]) (by omega) (by omega) (.inl ⟨rfl, by simp⟩) (by simp) (by simp [fa_3]) (fun u hu => hev u hu) (by omega) ?_
        rintro k' c' g' hk' hk100 hc' hg'
        obtain rfl : k' = 364 := by
          rcases hk' with hk' | ⟨c, hk'⟩
          · exact hk'
          · simp at hk'
        refine GL_walk 1 [] rfl (by simp) (by kernel_rfl) ?_; intro q hq; simp [hC, hY, putT]; refine hq _ _ _ _ ?_; clear hq q
        simp only [wT, List.length_cons, List.length_nil, Nat.reduceAdd]
        refine GL_nil ?_
        try simp only [blockG_normal, thenG_normal]
        refine ⟨fun k => if k = 290 then 364 else k, _, fun C0 h1 h2 => weakRL _ _ 300 (h1.trans hCC) G0F (m0 := []) (hasd C0 h2) (by omega) ?_ ?_ ?_ ?_ ?_, ⟨_, _, .inr ⟨c', g', by omega, by omega, by rw [hct]; exact hg', by rw [hct], rfl⟩, rfl⟩⟩
        · simp [nnTs, nnM, dom, junk, ren, renA, renF, ren0, idsV, idsA, idsF, ids0]
        · have hfi := fun D => Blk.fx_ids (fa_fx (3 * c') g' 36) D
          have hfm := fun ρ => fx_map (fa_fx (3 * c') g' 36) ρ
          have hrm' := hrm
          simp [nnM, hfm, fzB_rn, bB_rn, clB_rn]
          simp [fzB_ids, bB, clB, Blk.rn, renF, ren0, ids_lit, idsF, ids0, dom, hfi, hfm]
        · simp [nnM]
        · intro k hk; simp; omega
        · simp [nnM, dom]
      · refine GL_push (m := 3) (i := m) (j := 356) (by' := 24) (z := .agg #[.int .i64 0, .int .i64 0, .int .i64 0]) (T2 := .ty 36) (G := pF (nearL ok nr l)) (ev := fun u => pF l (3 * i + u)) rfl (by simp) rfl Tryd.underlying32 (tySize_of Tryd.sizeOf36) (by kernel_rfl) (by kernel_rfl) (by omega) (by simp [Value.cells]) (by simp [Value.cells]) (by omega) (by omega) (.inr ⟨290, c, a, by omega, by simp, by simp, hic, hg⟩) (by simp) (by simp [fa_3]) (fun u hu => hev u hu) (by omega) ?_
        rintro k' c' g' hk' hk100 hc' hg'
        have hk' : k' = 364 ∨ k' = 290 := by
          rcases hk' with hk' | ⟨c, hk'⟩
          · exact .inl hk'
          · simp at hk'; exact .inr hk'.1.symm
        rcases hk' with rfl | rfl
        ·
          refine GL_walk 1 [] rfl (by simp) (by kernel_rfl) ?_; intro q hq; simp [hC, hY, putT]; refine hq _ _ _ _ ?_; clear hq q
          simp only [wT, List.length_cons, List.length_nil, Nat.reduceAdd]
          refine GL_nil ?_
          try simp only [blockG_normal, thenG_normal]
          refine ⟨fun k => if k = 290 then 364 else k, _, fun C0 h1 h2 => weakRL _ _ 300 (h1.trans hCC) G0F (m0 := []) (hasd C0 h2) (by omega) ?_ ?_ ?_ ?_ ?_, ⟨_, _, .inr ⟨c', g', by omega, by omega, by rw [hct]; exact hg', by rw [hct], rfl⟩, rfl⟩⟩
          · simp [nnTs, nnM, dom, junk, ren, renA, renF, ren0, idsV, idsA, idsF, ids0]
          · have hfi := fun D => Blk.fx_ids (fa_fx (3 * c') g' 36) D
            have hfm := fun ρ => fx_map (fa_fx (3 * c') g' 36) ρ
            simp [nnM, hfm, fzB_rn, bB_rn, clB_rn]
            simp [fzB_ids, bB, clB, Blk.rn, renF, ren0, ids_lit, idsF, ids0, dom, hfi, hfm]
          · simp [nnM]
          · intro k hk; simp; omega
          · simp [nnM, dom]
        ·
          refine GL_walk 1 [] rfl (by simp) (by kernel_rfl) ?_; intro q hq; simp [hC, hY, putT]; refine hq _ _ _ _ ?_; clear hq q
          simp only [wT, List.length_cons, List.length_nil, Nat.reduceAdd]
          refine GL_nil ?_
          try simp only [blockG_normal, thenG_normal]
          refine ⟨fun k => if k = 290 then 290 else k, _, fun C0 h1 h2 => weakRL _ _ 300 (h1.trans hCC) G0F (m0 := []) (hasd C0 h2) (by omega) ?_ ?_ ?_ ?_ ?_, ⟨_, _, .inr ⟨c', g', by omega, by omega, by rw [hct]; exact hg', by rw [hct], rfl⟩, rfl⟩⟩
          · simp [nnTs, nnM, dom, junk, ren, renA, renF, ren0, idsV, idsA, idsF, ids0]
          · have hfi := fun D => Blk.fx_ids (fa_fx (3 * c') g' 36) D
            have hfm := fun ρ => fx_map (fa_fx (3 * c') g' 36) ρ
            simp [nnM, hfm, fzB_rn, bB_rn, clB_rn]
            simp [fzB_ids, bB, clB, Blk.rn, renF, ren0, ids_lit, idsF, ids0, dom, hfi, hfm]
          · simp [nnM]
          · intro k hk; simp; omega
          · simp [nnM, dom]
  · left
    refine ⟨(prXs_len _).symm, ?_⟩
    have hout : ∀ k, 200 ≤ k → (k ∈ keys L) = False := fun k hk => by
      simp only [eq_iff_iff, iff_false]
      intro hm
      obtain ⟨p, hp, rfl⟩ := mem_keys.1 hm
      have := (hT.ok.big p hp).2
      omega
    rintro hq0 ⟨sl, ns, hV, rfl⟩
    rw [cnt_all] at hV
    refine ⟨?_, ?_⟩
    · intro k hk
      have hns : ∀ q ∈ ns, 200 ≤ q.1 := fun q hq => by have := prR_key hV q.1 (mem_keys.2 ⟨q, hq, rfl⟩); omega
      rcases List.mem_cons.1 hk with rfl | hk
      · rcases hV with ⟨hc0, rfl, rfl⟩ | ⟨c, a, hi0, hic, hg, rfl, rfl⟩ <;> simp [nnM]
      · obtain ⟨p, hp, rfl⟩ := mem_keys.1 hk
        have hpb := hT.ok.big p hp
        exact ⟨nnM_none hpb.1 hpb.2 hns, by omega⟩
    rcases hV with ⟨hc0, rfl, rfl⟩ | ⟨c, a, hi0, hic, hg, rfl, rfl⟩
    · have hm26 := hout 216 (by omega)
      have hm29 := hout 290 (by omega)
      unfold nnTs nnM
      repeat' (first | refine gwS ?_ | simp only [wN, wM, Nat.reduceAdd, Nat.reduceMul] | ((first | refine gwR [] ?_ | refine gwD [] ?_); intro Q hQ hP; simp [hC, hY, addB, hm26, hm29]; (first | refine hQ _ _ _ _ (by kernel_rfl) ?_ | refine hP _ _ (by kernel_rfl) fun _ => ?_); clear hQ hP Q) | refine gwB ?_ | refine gwT ?_ | refine gwK ?_ | refine gwE ?_ | refine gwG ?_ | refine gwL ?_ | simp only [blockG_exit] | (refine gwC ?_ ?_ <;> (intro hb; first | (cases hb; done) | skip)))
      refine ⟨.inr trivial, keep_of G0F (fun p hp => by
        have hpb := hT.ok.big p hp
        have hm9 : p.1 ∈ 264 :: keys L := List.mem_cons_of_mem _ (mem_keys.2 ⟨p, hp, rfl⟩)
        simp (disch := omega) only [addB_in hm9, upd_other, hpL_cons, hpL_nil, if_neg, updL]) (fun k hk => by
        have hm9 : k ∉ 264 :: keys L := fun hm9 => by
          rcases List.mem_cons.1 hm9 with rfl | hm9
          · omega
          · obtain ⟨p, hp, rfl⟩ := mem_keys.1 hm9
            have := (hT.ok.big p hp).1
            omega
        simp (disch := omega) only [addB_out hm9, upd_other, hpL_cons, hpL_nil, if_neg, updL, hLow]), _, _, fun k => k, .inl ⟨hc0, rfl, rfl⟩, fun _ _ => rfl, by simp, by simp, by simp [Tryd.results10, ren, renA, renF, ren0, addB, hm26, hm29], by simp⟩
    · have hm26 := hout 216 (by omega)
      have hm29 := hout 290 (by omega)
      unfold nnTs nnM
      repeat' (first | refine gwS ?_ | simp only [wN, wM, Nat.reduceAdd, Nat.reduceMul] | ((first | refine gwR [] ?_ | refine gwD [] ?_); intro Q hQ hP; simp [hC, hY, addB, hm26, hm29]; (first | refine hQ _ _ _ _ (by kernel_rfl) ?_ | refine hP _ _ (by kernel_rfl) fun _ => ?_); clear hQ hP Q) | refine gwB ?_ | refine gwT ?_ | refine gwK ?_ | refine gwE ?_ | refine gwG ?_ | refine gwL ?_ | simp only [blockG_exit] | (refine gwC ?_ ?_ <;> (intro hb; first | (cases hb; done) | skip)))
      refine ⟨.inr trivial, keep_of G0F (fun p hp => by
        have hpb := hT.ok.big p hp
        have hm9 : p.1 ∈ 264 :: keys L := List.mem_cons_of_mem _ (mem_keys.2 ⟨p, hp, rfl⟩)
        simp (disch := omega) only [addB_in hm9, upd_other, hpL_cons, hpL_nil, if_neg, updL]) (fun k hk => by
        have hm9 : k ∉ 264 :: keys L := fun hm9 => by
          rcases List.mem_cons.1 hm9 with rfl | hm9
          · omega
          · obtain ⟨p, hp, rfl⟩ := mem_keys.1 hm9
            have := (hT.ok.big p hp).1
            omega
        simp (disch := omega) only [addB_out hm9, upd_other, hpL_cons, hpL_nil, if_neg, updL, hLow]), _, _, fun k => if k = 1000 then 290 else k, .inr ⟨c, a, hi0, hic, hg, rfl, rfl⟩, fun k hk => if_neg (by omega), by simp, by simp, by simp [Tryd.results10, ren, renA, renF, ren0, addB, hm26, hm29], by simp [addB, fa_rn, hm26, hm29]⟩
theorem nNear_fun (bm bs : Blk) (off n cap off2 n2 cap2 : Nat) (fm fs : Nat → Int) (hm : MB bm off n fm) (hSb : SB bs off2 n2 fs) (hcap : n2 ≤ cap2) (g bx tp nr md st : Int) (hs : i64 st) :
    FunS Tryd.prog G0 10 #[cfV (.slice (some ⟨100, off, none⟩) n cap) g bx tp nr md, .agg #[.int .i64 st, .slice (some ⟨108, off2, none⟩) n2 cap2]] (hpL G0 (ncL bm bs)) (keys (ncL bm bs))
      (PrR 1000 (nearL (cfOk n fm g bx tp nr md) nr (prs st fs n2)).length (pF (nearL (cfOk n fm g bx tp nr md) nr (prs st fs n2)))) := nNear_L _ _ bm bs (LTwo.two hm.fx hSb.fx) off n cap off2 n2 cap2 fm fs hm hSb hcap g bx tp nr md st hs
theorem nor3 {a b c z : Bool} (h : (a && (b && c)) = z) : (!a || (!b || !c)) = !z := by
  subst h
  cases a <;> cases b <;> cases c <;> rfl
def zP (p : Pr) : Bool := p.1 == 0 && (p.2.1 == 0 && p.2.2 == 0)
def lsStep (p q : Pr) : Pr := if zP p = true ∨ q.2.2 < p.2.2 then q else p
def lsAll (l : List Pr) : Pr := l.foldl lsStep (0, 0, 0)
def prB (p : Pr) : Blk := ⟨#[.int .i64 p.1, .int .i64 p.2.1, .int .i64 p.2.2], .ty 36⟩
theorem ls_take {l : List Pr} {i : Nat} (hi : i < l.length) : lsAll (l.take (i + 1)) = lsStep (lsAll (l.take i)) (pF l (3 * i), pF l (3 * i + 1), pF l (3 * i + 2)) := by
  have e : l[i]? = some l[i] := by simp [hi]
  obtain ⟨e0, e1, e2⟩ := pF_at e
  rw [e0, e1, e2]
  unfold lsAll
  rw [show l.take (i + 1) = l.take i ++ [l[i]] by simp, List.foldl_append]
  rfl
def lsSt (b : Blk) (nk c : Nat) (a : Nat → Int) (p : Pr) (o r e : Nat) : GS :=
  ⟨tsL [(2, .pointer (some ⟨208, 0, none⟩)), (3, .bool false), (4, .slice (some ⟨nk, o, none⟩) r e)], hpL G0 [(100, b), (208, prB p), (nk, ⟨fa (3 * c) .i64 a, .ty 36⟩)], 300, 0⟩
def LeastV (l : List Pr) : Value := .tuple #[prV (lsAll l), .bool !(zP (lsAll l))]
set_option maxRecDepth 8000 in
set_option maxHeartbeats 4000000 in
theorem least_fun (b : Blk) (off n cap : Nat) (f : Nat → Int) (h : SB b off n f) (hcap : n ≤ cap) (st : Int) (hs : i64 st) :
    Fun Tryd.prog G0 12 #[.agg #[.int .i64 st, .slice (some ⟨100, off, none⟩) n cap]] (hpL G0 [(100, b)]) (keys [(100, b)]) (.ret (LeastV (prs st f n)) []) := by
  refine fun_ofL (B := 200) G0F Tryd.func12 rfl Tryd.call12 (oneL_ok h.fx) ?_ (by simp [LeastV, prV, idsV, idsA, idsF, ids0]) (by simp) (by simp) (by simp [Tryd.ntmps12]) (by omega) ?_
  · simp [idsV, idsA, idsF, ids0, keys]
  intro C hC hC0 hY
  have hid := fun D => Blk.fx_ids h.fx D
  have hpr := nPairs_at 100 232 (by omega) (by omega) (by omega) b off n cap f h hcap st hs
  have hln := prs_len st f n
  obtain ⟨l, hl⟩ : ∃ l, prs st f n = l := ⟨_, rfl⟩
  rw [hl] at hpr hln ⊢
  repeat' (first | refine gwS ?_ | simp only [wN, wM, Nat.reduceAdd, Nat.reduceMul] | ((first | refine gwR [] ?_ | refine gwD [] ?_); intro Q hQ hP; simp [hC, hY]; (first | refine hQ _ _ _ _ (by kernel_rfl) ?_ | refine hP _ _ (by kernel_rfl) fun _ => ?_); clear hQ hP Q) | refine gwB ?_ | refine gwT ?_ | refine gwK ?_ | refine gwE ?_ | refine gwG ?_ | refine gwL ?_ | simp only [blockG_exit] | (refine gwC ?_ ?_ <;> (intro hb; first | (cases hb; done) | skip)))
  refine GW_scope' 0 (fun r s => (∃ (c : Nat) (a : Nat → Int) (o e : Nat), l.length ≤ c ∧ (∀ j, j < 3 * l.length → a j = pF l j) ∧ r ≤ e ∧ r ≤ l.length ∧ (r = 0 ∨ o = 3 * (l.length - r)) ∧ s = lsSt b 232 c a (lsAll (l.take (l.length - r))) o r e)) rfl ?_ ?_
  · rintro r _ ⟨c, a, o, e, hlc, ha, hre, hrl, ho, rfl⟩
    obtain ⟨p, hp⟩ : ∃ p, lsAll (l.take (l.length - r)) = p := ⟨_, rfl⟩
    rw [hp]
    by_cases hr : r = 0
    · subst hr
      have hp2 : lsAll l = p := by rw [← hp]; simp
      unfold LeastV
      rw [hp2]
      unfold lsSt prB prV zP
      cases hz : (p.1 == 0 && (p.2.1 == 0 && p.2.2 == 0)) with
      | true =>
        have hz' := nor3 hz
        simp only [Bool.not_true] at hz'
        repeat' (first | refine gwS ?_ | simp only [wN, wM, Nat.reduceAdd, Nat.reduceMul] | ((first | refine gwR [] ?_ | refine gwD [] ?_); intro Q hQ hP; simp [hC, hY, hz, hz']; (first | refine hQ _ _ _ _ (by kernel_rfl) ?_ | refine hP _ _ (by kernel_rfl) fun _ => ?_); clear hQ hP Q) | refine gwB ?_ | refine gwT ?_ | refine gwK ?_ | refine gwE ?_ | refine gwG ?_ | refine gwL ?_ | simp only [blockG_exit] | (refine gwC ?_ ?_ <;> (intro hb; first | (cases hb; done) | skip)))
        refine ⟨.inr rfl, by simp [Tryd.results12], keep_of G0F (by simp) (by (intro k hk; first | rfl | (simp (disch := omega) only [addB, List.mem_cons, List.not_mem_nil, or_false, upd_other, hpL_cons, hpL_nil, if_neg, updL] <;> done)))⟩
      | false =>
        have hz' := nor3 hz
        simp only [Bool.not_false] at hz'
        repeat' (first | refine gwS ?_ | simp only [wN, wM, Nat.reduceAdd, Nat.reduceMul] | ((first | refine gwR [] ?_ | refine gwD [] ?_); intro Q hQ hP; simp [hC, hY, hz, hz']; (first | refine hQ _ _ _ _ (by kernel_rfl) ?_ | refine hP _ _ (by kernel_rfl) fun _ => ?_); clear hQ hP Q) | refine gwB ?_ | refine gwT ?_ | refine gwK ?_ | refine gwE ?_ | refine gwG ?_ | refine gwL ?_ | simp only [blockG_exit] | (refine gwC ?_ ?_ <;> (intro hb; first | (cases hb; done) | skip)))
        refine ⟨.inr rfl, by simp [Tryd.results12], keep_of G0F (by simp) (by (intro k hk; first | rfl | (simp (disch := omega) only [addB, List.mem_cons, List.not_mem_nil, or_false, upd_other, hpL_cons, hpL_nil, if_neg, updL] <;> done)))⟩
    · have ho := ho.resolve_left hr
      obtain ⟨i, hi⟩ : ∃ i, l.length - r = i := ⟨_, rfl⟩
      rw [hi] at ho hp
      have hil : i < l.length := by omega
      have hr1 : (1 : Int) ≤ (r : Int) := by omega
      have hr0 : (0 : Int) < (r : Int) := by omega
      have hr2 : 0 < r := by omega
      have hr3 : 1 ≤ r := by omega
      have hld := pr_at (T := .ty 36) (a := a) hil hlc rfl
      rw [ha (3 * i) (by omega), ha (3 * i + 1) (by omega), ha (3 * i + 2) (by omega), show i * 3 = o by omega] at hld
      have hld2 : loadK Tryd.prog 3 ⟨fa (3 * c) .i64 a, .ty 36⟩ (o + 2) = some (.int .i64 (pF l (3 * i + 2))) := by
        have := loadK_rd1 (P := Tryd.prog) (T := 3) (j := 3 * i + 2) (tyAgg_of Tryd.isAgg3) (rdI_fa (3 * c) a (.ty 36)) (by omega)
        rw [ha (3 * i + 2) (by omega)] at this
        rw [show o + 2 = 0 + (3 * i + 2) by omega]
        exact this
      have hstep := ls_take hil
      rw [hp] at hstep
      cases hz : (p.1 == 0 && (p.2.1 == 0 && p.2.2 == 0)) with
      | true =>
        have hsp : lsStep p (pF l (3 * i), pF l (3 * i + 1), pF l (3 * i + 2)) = (pF l (3 * i), pF l (3 * i + 1), pF l (3 * i + 2)) := by
          unfold lsStep
          rw [if_pos (.inl hz)]
        rw [hsp] at hstep
        by_cases he : e = 1
        · subst he
          unfold lsSt prB
          repeat' (first | refine gwS ?_ | simp only [wN, wM, Nat.reduceAdd, Nat.reduceMul] | ((first | refine gwR [] ?_ | refine gwD [] ?_); intro Q hQ hP; simp [hC, hY, hr0, hr1, hr2, hr3, hld, hld2, hz]; (first | refine hQ _ _ _ _ (by kernel_rfl) ?_ | refine hP _ _ (by kernel_rfl) fun _ => ?_); clear hQ hP Q) | refine gwB ?_ | refine gwT ?_ | refine gwK ?_ | refine gwE ?_ | refine gwG ?_ | refine gwL ?_ | simp only [blockG_exit] | (refine gwC ?_ ?_ <;> (intro hb; first | (cases hb; done) | skip)))
          refine ⟨rfl, lsSt b 232 c a (lsAll (l.take (i + 1))) o (r - 1) (1 - 1), r - 1, ?_, ⟨c, a, o, (1 - 1), hlc, ha, by omega, by omega, by omega, ?_⟩, by omega⟩
          · rw [hstep]
            unfold lsSt prB
            refine weakL _ 300 hC G0F (m0 := [(100, b)]) hC0 (by omega) ?_ ?_ ?_
            · simp [idsV, idsA, idsF, ids0, dom]
            · simp [ids_lit, idsF, ids0, hid, Blk.fx_ids (fa_fx _ _ _)]
            · simp
          · rw [show l.length - (r - 1) = i + 1 by omega]
            rfl
        · unfold lsSt prB
          repeat' (first | refine gwS ?_ | simp only [wN, wM, Nat.reduceAdd, Nat.reduceMul] | ((first | refine gwR [] ?_ | refine gwD [] ?_); intro Q hQ hP; simp [hC, hY, hr0, hr1, hr2, hr3, hld, hld2, hz, he]; (first | refine hQ _ _ _ _ (by kernel_rfl) ?_ | refine hP _ _ (by kernel_rfl) fun _ => ?_); clear hQ hP Q) | refine gwB ?_ | refine gwT ?_ | refine gwK ?_ | refine gwE ?_ | refine gwG ?_ | refine gwL ?_ | simp only [blockG_exit] | (refine gwC ?_ ?_ <;> (intro hb; first | (cases hb; done) | skip)))
          refine ⟨rfl, lsSt b 232 c a (lsAll (l.take (i + 1))) (o + 3) (r - 1) (e - 1), r - 1, ?_, ⟨c, a, (o + 3), (e - 1), hlc, ha, by omega, by omega, by omega, ?_⟩, by omega⟩
          · rw [hstep]
            unfold lsSt prB
            refine weakL _ 300 hC G0F (m0 := [(100, b)]) hC0 (by omega) ?_ ?_ ?_
            · simp [idsV, idsA, idsF, ids0, dom]
            · simp [ids_lit, idsF, ids0, hid, Blk.fx_ids (fa_fx _ _ _)]
            · simp
          · rw [show l.length - (r - 1) = i + 1 by omega]
            rfl
      | false =>
        have hzP : ¬ zP p = true := by unfold zP; rw [hz]; simp
        by_cases hq : pF l (3 * i + 2) < p.2.2
        · have hsp : lsStep p (pF l (3 * i), pF l (3 * i + 1), pF l (3 * i + 2)) = (pF l (3 * i), pF l (3 * i + 1), pF l (3 * i + 2)) := by
            unfold lsStep
            rw [if_pos (.inr hq)]
          rw [hsp] at hstep
          by_cases he : e = 1
          · subst he
            unfold lsSt prB
            repeat' (first | refine gwS ?_ | simp only [wN, wM, Nat.reduceAdd, Nat.reduceMul] | ((first | refine gwR [] ?_ | refine gwD [] ?_); intro Q hQ hP; simp [hC, hY, hr0, hr1, hr2, hr3, hld, hld2, hz, hq]; (first | refine hQ _ _ _ _ (by kernel_rfl) ?_ | refine hP _ _ (by kernel_rfl) fun _ => ?_); clear hQ hP Q) | refine gwB ?_ | refine gwT ?_ | refine gwK ?_ | refine gwE ?_ | refine gwG ?_ | refine gwL ?_ | simp only [blockG_exit] | (refine gwC ?_ ?_ <;> (intro hb; first | (cases hb; done) | skip)))
            refine ⟨rfl, lsSt b 232 c a (lsAll (l.take (i + 1))) o (r - 1) (1 - 1), r - 1, ?_, ⟨c, a, o, (1 - 1), hlc, ha, by omega, by omega, by omega, ?_⟩, by omega⟩
            · rw [hstep]
              unfold lsSt prB
              refine weakL _ 300 hC G0F (m0 := [(100, b)]) hC0 (by omega) ?_ ?_ ?_
              · simp [idsV, idsA, idsF, ids0, dom]
              · simp [ids_lit, idsF, ids0, hid, Blk.fx_ids (fa_fx _ _ _)]
              · simp
            · rw [show l.length - (r - 1) = i + 1 by omega]
              rfl
          · unfold lsSt prB
            repeat' (first | refine gwS ?_ | simp only [wN, wM, Nat.reduceAdd, Nat.reduceMul] | ((first | refine gwR [] ?_ | refine gwD [] ?_); intro Q hQ hP; simp [hC, hY, hr0, hr1, hr2, hr3, hld, hld2, hz, hq, he]; (first | refine hQ _ _ _ _ (by kernel_rfl) ?_ | refine hP _ _ (by kernel_rfl) fun _ => ?_); clear hQ hP Q) | refine gwB ?_ | refine gwT ?_ | refine gwK ?_ | refine gwE ?_ | refine gwG ?_ | refine gwL ?_ | simp only [blockG_exit] | (refine gwC ?_ ?_ <;> (intro hb; first | (cases hb; done) | skip)))
            refine ⟨rfl, lsSt b 232 c a (lsAll (l.take (i + 1))) (o + 3) (r - 1) (e - 1), r - 1, ?_, ⟨c, a, (o + 3), (e - 1), hlc, ha, by omega, by omega, by omega, ?_⟩, by omega⟩
            · rw [hstep]
              unfold lsSt prB
              refine weakL _ 300 hC G0F (m0 := [(100, b)]) hC0 (by omega) ?_ ?_ ?_
              · simp [idsV, idsA, idsF, ids0, dom]
              · simp [ids_lit, idsF, ids0, hid, Blk.fx_ids (fa_fx _ _ _)]
              · simp
            · rw [show l.length - (r - 1) = i + 1 by omega]
              rfl
        · have hsp : lsStep p (pF l (3 * i), pF l (3 * i + 1), pF l (3 * i + 2)) = p := by
            unfold lsStep
            rw [if_neg]
            rintro (h1 | h1)
            · exact hzP h1
            · exact hq h1
          rw [hsp] at hstep
          by_cases he : e = 1
          · subst he
            unfold lsSt prB
            repeat' (first | refine gwS ?_ | simp only [wN, wM, Nat.reduceAdd, Nat.reduceMul] | ((first | refine gwR [] ?_ | refine gwD [] ?_); intro Q hQ hP; simp [hC, hY, hr0, hr1, hr2, hr3, hld, hld2, hz, hq]; (first | refine hQ _ _ _ _ (by kernel_rfl) ?_ | refine hP _ _ (by kernel_rfl) fun _ => ?_); clear hQ hP Q) | refine gwB ?_ | refine gwT ?_ | refine gwK ?_ | refine gwE ?_ | refine gwG ?_ | refine gwL ?_ | simp only [blockG_exit] | (refine gwC ?_ ?_ <;> (intro hb; first | (cases hb; done) | skip)))
            refine ⟨rfl, lsSt b 232 c a (lsAll (l.take (i + 1))) o (r - 1) (1 - 1), r - 1, ?_, ⟨c, a, o, (1 - 1), hlc, ha, by omega, by omega, by omega, ?_⟩, by omega⟩
            · rw [hstep]
              unfold lsSt prB
              refine weakL _ 300 hC G0F (m0 := [(100, b)]) hC0 (by omega) ?_ ?_ ?_
              · simp [idsV, idsA, idsF, ids0, dom]
              · simp [ids_lit, idsF, ids0, hid, Blk.fx_ids (fa_fx _ _ _)]
              · simp
            · rw [show l.length - (r - 1) = i + 1 by omega]
              rfl
          · unfold lsSt prB
            repeat' (first | refine gwS ?_ | simp only [wN, wM, Nat.reduceAdd, Nat.reduceMul] | ((first | refine gwR [] ?_ | refine gwD [] ?_); intro Q hQ hP; simp [hC, hY, hr0, hr1, hr2, hr3, hld, hld2, hz, hq, he]; (first | refine hQ _ _ _ _ (by kernel_rfl) ?_ | refine hP _ _ (by kernel_rfl) fun _ => ?_); clear hQ hP Q) | refine gwB ?_ | refine gwT ?_ | refine gwK ?_ | refine gwE ?_ | refine gwG ?_ | refine gwL ?_ | simp only [blockG_exit] | (refine gwC ?_ ?_ <;> (intro hb; first | (cases hb; done) | skip)))
            refine ⟨rfl, lsSt b 232 c a (lsAll (l.take (i + 1))) (o + 3) (r - 1) (e - 1), r - 1, ?_, ⟨c, a, (o + 3), (e - 1), hlc, ha, by omega, by omega, by omega, ?_⟩, by omega⟩
            · rw [hstep]
              unfold lsSt prB
              refine weakL _ 300 hC G0F (m0 := [(100, b)]) hC0 (by omega) ?_ ?_ ?_
              · simp [idsV, idsA, idsF, ids0, dom]
              · simp [ids_lit, idsF, ids0, hid, Blk.fx_ids (fa_fx _ _ _)]
              · simp
            · rw [show l.length - (r - 1) = i + 1 by omega]
              rfl
  · intro pass
    repeat' (first | refine gwS ?_ | simp only [wN, wM, Nat.reduceAdd, Nat.reduceMul] | ((first | refine gwR [] ?_ | refine gwD [] ?_); intro Q hQ hP; simp [hC, hY]; (first | refine hQ _ _ _ _ (by kernel_rfl) ?_ | refine hP _ _ (by kernel_rfl) fun _ => ?_); clear hQ hP Q) | refine gwB ?_ | refine gwT ?_ | refine gwK ?_ | refine gwE ?_ | refine gwG ?_ | refine gwL ?_ | simp only [blockG_exit] | (refine gwC ?_ ?_ <;> (intro hb; first | (cases hb; done) | skip)))
    refine GW_list ?_
    simp only [Array.toList]
    refine GL_walk 1 [] rfl (by simp) (by kernel_rfl) ?_; intro q hq; simp [hC, hY]; refine hq _ _ _ _ ?_; clear hq q
    simp only [wT, List.length_cons, List.length_nil, Nat.reduceAdd]
    refine GL_callL (f := .func 9) (cap := #[]) hC hpr rfl (by simp) rfl rfl (by simp [okT]) (by simp [gev]) (by simp) (by simp [okX, junk]) (by simp [gev]) (by simp) (by (intro k hk; first | rfl | (simp (disch := omega) only [addB, List.mem_cons, List.not_mem_nil, or_false, upd_other, hpL_cons, hpL_nil, if_neg, updL] <;> done))) (fun v ns hV k hk => by rw [prR_key hV k hk]; omega) ?_
    intro v ns hV
    rcases hV with ⟨hl0, rfl, rfl⟩ | ⟨c, a, hi0, hic, hg, rfl, rfl⟩
    · obtain rfl : l = [] := List.length_eq_zero_iff.1 hl0
      refine GL_walk 1 [] rfl (by simp) (by kernel_rfl) ?_; intro q hq; simp [hC, hY, putT, updL]; refine hq _ _ _ _ ?_; clear hq q
      simp only [wT, List.length_cons, List.length_nil, Nat.reduceAdd]
      refine GL_nil ?_
      clear pass
      have h0 : lsAll [] = (0, 0, 0) := rfl
      unfold LeastV
      rw [h0]
      repeat' (first | refine gwS ?_ | simp only [wN, wM, Nat.reduceAdd, Nat.reduceMul] | ((first | refine gwR [] ?_ | refine gwD [] ?_); intro Q hQ hP; simp [hC, hY]; (first | refine hQ _ _ _ _ (by kernel_rfl) ?_ | refine hP _ _ (by kernel_rfl) fun _ => ?_); clear hQ hP Q) | refine gwB ?_ | refine gwT ?_ | refine gwK ?_ | refine gwE ?_ | refine gwG ?_ | refine gwL ?_ | simp only [blockG_exit] | (refine gwC ?_ ?_ <;> (intro hb; first | (cases hb; done) | skip)))
      refine ⟨.inr rfl, ?_, keep_of G0F (by simp) (by (intro k hk; first | rfl | (simp (disch := omega) only [addB, List.mem_cons, List.not_mem_nil, or_false, upd_other, hpL_cons, hpL_nil, if_neg, updL] <;> done)))⟩
      simp [Tryd.results12, lsAll, prV, zP]
    ·
      refine GL_walk 1 [] rfl (by simp) (by kernel_rfl) ?_; intro q hq; simp [hC, hY, putT, updL]; refine hq _ _ _ _ ?_; clear hq q
      simp only [wT, List.length_cons, List.length_nil, Nat.reduceAdd]
      refine GL_nil ?_
      refine GW_seq (GW_label ?_)
      simp only [thenG_normal]
      refine pass l.length (lsSt b 232 c a (lsAll (l.take (l.length - l.length))) 0 l.length c) _ ?_ ⟨c, a, 0, c, hic, hg, hic, Nat.le_refl _, .inr (by omega), rfl⟩
      rw [Nat.sub_self]
      have h0 : lsAll [] = (0, 0, 0) := rfl
      rw [List.take_zero, h0]
      unfold lsSt prB
      refine weakL _ 300 hC G0F (m0 := [(100, b)]) hC0 (by omega) ?_ ?_ ?_
      · simp [idsV, idsA, idsF, ids0, dom]
      · simp [ids_lit, idsF, ids0, hid, Blk.fx_ids (fa_fx _ _ _)]
      · simp
def wyLo (q : Int) : Int := if 0 ≤ q then isq q else 0
def wyHi (q : Int) : Int := if 0 ≤ q then (if isq q * isq q = q then isq q else isq q + 1) else 0
theorem isq_small {q : Int} (h : i64 q) (h0 : 0 ≤ q) : 0 ≤ isq q ∧ isq q ≤ 3037000500 := by
  obtain ⟨s0, s1, s2⟩ := isq_spec q h0
  refine ⟨s0, ?_⟩
  have h1 := h.2
  refine Classical.byContradiction fun h2 => ?_
  have h3 : (3037000500 : Int) * 3037000500 ≤ isq q * isq q := Int.mul_le_mul (by omega) (by omega) (by omega) s0
  omega
theorem nway_ret (i j q : Int) (h : i64 q) : Ret Tryd.prog G0 11 #[.agg #[.int .i64 i, .int .i64 j, .int .i64 q]] (.tuple #[.int .i64 (wyLo q), .int .i64 (wyHi q)]) := by
  refine ret_of G0F Tryd.func11 rfl Tryd.call11 (by simp) (by simp) (by simp [Tryd.ntmps11]) ?_
  intro C hC hC0 hY
  unfold wyLo wyHi
  by_cases h0 : 0 ≤ q
  · obtain ⟨s0, s1⟩ := isq_small h h0
    obtain ⟨_, s2, _⟩ := isq_spec q h0
    have h1 := h.2
    have hsq0 : 0 ≤ isq q * isq q := Int.mul_nonneg s0 s0
    have b1 : Int.bmod (isq q * isq q) 18446744073709551616 = isq q * isq q := bm (by omega) (by omega)
    have b2 : Int.bmod (isq q + 1) 18446744073709551616 = isq q + 1 := bm (by omega) (by omega)
    rw [if_pos h0, if_pos h0]
    by_cases c : isq q * isq q = q
    · rw [if_pos c]
      rw [c] at b1
      repeat' (first | refine gwS ?_ | simp only [wN, wM, Nat.reduceAdd, Nat.reduceMul] | ((first | refine gwR [] ?_ | refine gwD [] ?_); intro Q hQ hP; simp [hC, hY, h, h0, b1, b2, c]; (first | refine hQ _ _ _ _ (by kernel_rfl) ?_ | refine hP _ _ (by kernel_rfl) fun _ => ?_); clear hQ hP Q) | refine gwB ?_ | refine gwT ?_ | refine gwK ?_ | refine gwE ?_ | refine gwG ?_ | refine gwL ?_ | simp only [blockG_exit] | (refine gwC ?_ ?_ <;> (intro hb; first | (cases hb; done) | skip)))
      refine ⟨.inr trivial, ?_⟩
      simp [Tryd.results11]
    · have c' : (isq q * isq q == q) = false := by simpa using c
      rw [if_neg c]
      repeat' (first | refine gwS ?_ | simp only [wN, wM, Nat.reduceAdd, Nat.reduceMul] | ((first | refine gwR [] ?_ | refine gwD [] ?_); intro Q hQ hP; simp [hC, hY, h, h0, b1, b2, c, c']; (first | refine hQ _ _ _ _ (by kernel_rfl) ?_ | refine hP _ _ (by kernel_rfl) fun _ => ?_); clear hQ hP Q) | refine gwB ?_ | refine gwT ?_ | refine gwK ?_ | refine gwE ?_ | refine gwG ?_ | refine gwL ?_ | simp only [blockG_exit] | (refine gwC ?_ ?_ <;> (intro hb; first | (cases hb; done) | skip)))
      refine ⟨.inr trivial, ?_⟩
      simp [Tryd.results11, b2]
  · rw [if_neg h0, if_neg h0]
    have h0' : q < 0 := by omega
    repeat' (first | refine gwS ?_ | simp only [wN, wM, Nat.reduceAdd, Nat.reduceMul] | ((first | refine gwR [] ?_ | refine gwD [] ?_); intro Q hQ hP; simp [hC, hY, h, h0']; (first | refine hQ _ _ _ _ (by kernel_rfl) ?_ | refine hP _ _ (by kernel_rfl) fun _ => ?_); clear hQ hP Q) | refine gwB ?_ | refine gwT ?_ | refine gwK ?_ | refine gwE ?_ | refine gwG ?_ | refine gwL ?_ | simp only [blockG_exit] | (refine gwC ?_ ?_ <;> (intro hb; first | (cases hb; done) | skip)))
    refine ⟨.inr trivial, ?_⟩
    simp [Tryd.results11]
@[simp] theorem nway (i j q : Int) (h : i64 q) (K : Value → Prop) : callK Tryd.prog G0 11 #[.agg #[.int .i64 i, .int .i64 j, .int .i64 q]] K ↔ K (.tuple #[.int .i64 (wyLo q), .int .i64 (wyHi q)]) := callK_iff G0W (by kernel_rfl) (nway_ret i j q h)
theorem w11_ret (n lo hi : Int) : Ret Tryd.prog G0 39 #[.int .i64 n, .int .i64 lo, .int .i64 hi] (.bool (wiB n lo hi)) := by
  refine ret_of G0F Tryd.func39 rfl Tryd.call39 rfl (by simp) (by simp [Tryd.ntmps39]) ?_
  intro C hC hC0 hY
  unfold wiB
  by_cases c0 : lo ≤ n
  · by_cases c1 : n ≤ hi
    · rw [decide_eq_true ⟨c0, c1⟩]
      (repeat' (first | refine gwS ?_ | simp only [wN, wM, Nat.reduceAdd, Nat.reduceMul] | ((first | refine gwR [] ?_ | refine gwD [] ?_); intro Q hQ hP; simp [hC, hY, c0, c1]; (first | refine hQ _ _ _ _ (by kernel_rfl) ?_ | refine hP _ _ (by kernel_rfl) fun _ => ?_); clear hQ hP Q) | refine gwB ?_ | refine gwT ?_ | refine gwK ?_ | refine gwE ?_ | refine gwG ?_ | refine gwL ?_ | simp only [blockG_exit] | (refine gwC ?_ ?_ <;> (intro hb; first | (cases hb; done) | skip))))
      refine ⟨.inr trivial, ?_⟩
      simp [Tryd.results39]
    · rw [decide_eq_false (by omega)]
      (repeat' (first | refine gwS ?_ | simp only [wN, wM, Nat.reduceAdd, Nat.reduceMul] | ((first | refine gwR [] ?_ | refine gwD [] ?_); intro Q hQ hP; simp [hC, hY, c0, c1]; (first | refine hQ _ _ _ _ (by kernel_rfl) ?_ | refine hP _ _ (by kernel_rfl) fun _ => ?_); clear hQ hP Q) | refine gwB ?_ | refine gwT ?_ | refine gwK ?_ | refine gwE ?_ | refine gwG ?_ | refine gwL ?_ | simp only [blockG_exit] | (refine gwC ?_ ?_ <;> (intro hb; first | (cases hb; done) | skip))))
      refine ⟨.inr trivial, ?_⟩
      simp [Tryd.results39]
  · rw [decide_eq_false (by omega)]
    (repeat' (first | refine gwS ?_ | simp only [wN, wM, Nat.reduceAdd, Nat.reduceMul] | ((first | refine gwR [] ?_ | refine gwD [] ?_); intro Q hQ hP; simp [hC, hY, c0]; (first | refine hQ _ _ _ _ (by kernel_rfl) ?_ | refine hP _ _ (by kernel_rfl) fun _ => ?_); clear hQ hP Q) | refine gwB ?_ | refine gwT ?_ | refine gwK ?_ | refine gwE ?_ | refine gwG ?_ | refine gwL ?_ | simp only [blockG_exit] | (refine gwC ?_ ?_ <;> (intro hb; first | (cases hb; done) | skip))))
    refine ⟨.inr trivial, ?_⟩
    simp [Tryd.results39]
@[simp] theorem w11 (n lo hi : Int) (K : Value → Prop) : callK Tryd.prog G0 39 #[.int .i64 n, .int .i64 lo, .int .i64 hi] K ↔ K (.bool (wiB n lo hi)) := callK_iff G0W (by kernel_rfl) (w11_ret n lo hi)
def whSt (b : Blk) (off n cap : Nat) (g bx tp nr md : Int) (i : Nat) : GS :=
  ⟨tsL [(1, .pointer (some ⟨200, 0, none⟩)), (3, .int .i64 i)], hpL G0 [(100, b), (200, cfB (.slice (some ⟨100, off, none⟩) n cap) g bx tp nr md)], 400, 0⟩
theorem allM_iff {f : Nat → Int} {n : Nat} : allM f n = true ↔ ∀ i, i < n → wiB (f i) 1 1024 = true := by simp [allM]
theorem why11_fun (b : Blk) (off n cap : Nat) (f : Nat → Int) (h : MB b off n f) (g bx tp nr md : Int) :
    Fun Tryd.prog G0 22 #[cfV (.slice (some ⟨100, off, none⟩) n cap) g bx tp nr md] (hpL G0 [(100, b)]) (keys [(100, b)]) (.ret (.string (whyS n f g bx tp nr md)) []) := by
  refine fun_ofL (B := 200) G0F Tryd.func22 rfl Tryd.call22 (oneL_ok h.fx) ?_ (by simp [idsV, idsA, idsF, ids0]) (by simp) (by simp) (by simp [Tryd.ntmps22]) (by omega) ?_
  · simp [idsV, idsA, idsF, ids0, keys, cfV]
  intro C hC hC0 hY
  have hid := fun D => Blk.fx_ids h.fx D
  unfold cfV
  cases h4 : wiB n 1 4 with
  | false =>
    have hw : whyS n f g bx tp nr md = ⟨#[98, 111, 100, 105, 101, 115]⟩ := by simp [whyS, h4]
    rw [hw]
    repeat' (first | refine gwS ?_ | simp only [wN, wM, Nat.reduceAdd, Nat.reduceMul] | ((first | refine gwR [] ?_ | refine gwD [] ?_); intro Q hQ hP; simp [hC, hY, h4]; (first | refine hQ _ _ _ _ (by kernel_rfl) ?_ | refine hP _ _ (by kernel_rfl) fun _ => ?_); clear hQ hP Q) | refine gwB ?_ | refine gwT ?_ | refine gwK ?_ | refine gwE ?_ | refine gwG ?_ | refine gwL ?_ | simp only [blockG_exit] | (refine gwC ?_ ?_ <;> (intro hb; first | (cases hb; done) | skip)))
    refine ⟨.inr rfl, by simp [Tryd.results22], keep_of G0F (by simp) (by (intro k hk; first | rfl | (simp (disch := omega) only [addB, List.mem_cons, List.not_mem_nil, or_false, upd_other, hpL_cons, hpL_nil, if_neg, updL] <;> done)))⟩
  | true =>
    obtain ⟨N, hN, hlt, hend⟩ := leadB (fun i => wiB (f i) 1 1024) n
    repeat' (first | refine gwS ?_ | simp only [wN, wM, Nat.reduceAdd, Nat.reduceMul] | ((first | refine gwR [] ?_ | refine gwD [] ?_); intro Q hQ hP; simp [hC, hY, h4]; (first | refine hQ _ _ _ _ (by kernel_rfl) ?_ | refine hP _ _ (by kernel_rfl) fun _ => ?_); clear hQ hP Q) | refine gwB ?_ | refine gwT ?_ | refine gwK ?_ | refine gwE ?_ | refine gwG ?_ | refine gwL ?_ | simp only [blockG_exit] | (refine gwC ?_ ?_ <;> (intro hb; first | (cases hb; done) | skip)))
    refine GW_for N (whSt b off n cap g bx tp nr md) ?_ ?_ ?_
    · refine weakL _ 400 hC G0F (m0 := [(100, b)]) hC0 (by omega) ?_ ?_ ?_
      · simp [idsV, idsA, idsF, ids0, dom]
      · simp [cfB, ids_lit, idsF, ids0, hid, dom]
      · simp
    · intro i hi
      have hi' : (i : Int) < n := by omega
      have hz : (0 : Int) ≤ i := by omega
      have hnn := h.nn
      have hs : Int.bmod ((i : Int) + 1) 18446744073709551616 = ((i + 1 : Nat) : Int) := by rw [bm (by omega) (by omega)]; rfl
      have hld := h.at (i := i) (by omega)
      have hw := hlt i hi
      unfold whSt cfB
      repeat' (first | refine gwS ?_ | simp only [wN, wM, Nat.reduceAdd, Nat.reduceMul] | ((first | refine gwR [] ?_ | refine gwD [] ?_); intro Q hQ hP; simp [hC, hY, hi', hz, hs, hld, hw]; (first | refine hQ _ _ _ _ (by kernel_rfl) ?_ | refine hP _ _ (by kernel_rfl) fun _ => ?_); clear hQ hP Q) | refine gwB ?_ | refine gwT ?_ | refine gwK ?_ | refine gwE ?_ | refine gwG ?_ | refine gwL ?_ | simp only [blockG_exit] | (refine gwC ?_ ?_ <;> (intro hb; first | (cases hb; done) | skip)))
      refine weakL _ 400 hC G0F (m0 := [(100, b)]) hC0 (by omega) ?_ ?_ ?_
      · simp [idsV, idsA, idsF, ids0, dom, hs]
      · simp [cfB, ids_lit, idsF, ids0, hid, dom]
      · simp
    · by_cases hNn : N = n
      · have hNs := hNn.symm
        subst hNs
        have hm : allM f n = true := allM_iff.2 hlt
        cases hg : wiB g 1 1048576 with
        | false =>
          have hw : whyS n f g bx tp nr md = ⟨#[99, 111, 110, 115, 116, 97, 110, 116]⟩ := by simp [whyS, h4, hm, hg]
          rw [hw]
          unfold whSt cfB
          repeat' (first | refine gwS ?_ | simp only [wN, wM, Nat.reduceAdd, Nat.reduceMul] | ((first | refine gwR [] ?_ | refine gwD [] ?_); intro Q hQ hP; simp [hC, hY, h4, hg]; (first | refine hQ _ _ _ _ (by kernel_rfl) ?_ | refine hP _ _ (by kernel_rfl) fun _ => ?_); clear hQ hP Q) | refine gwB ?_ | refine gwT ?_ | refine gwK ?_ | refine gwE ?_ | refine gwG ?_ | refine gwL ?_ | simp only [blockG_exit] | (refine gwC ?_ ?_ <;> (intro hb; first | (cases hb; done) | skip)))
          refine ⟨.inr rfl, by simp [Tryd.results22], keep_of G0F (by simp) (by (intro k hk; first | rfl | (simp (disch := omega) only [addB, List.mem_cons, List.not_mem_nil, or_false, upd_other, hpL_cons, hpL_nil, if_neg, updL] <;> done)))⟩
        | true =>
          cases hx : wiB bx 1 1048576 with
          | false =>
            have hw : whyS n f g bx tp nr md = ⟨#[98, 111, 120]⟩ := by simp [whyS, h4, hm, hg, hx]
            rw [hw]
            unfold whSt cfB
            repeat' (first | refine gwS ?_ | simp only [wN, wM, Nat.reduceAdd, Nat.reduceMul] | ((first | refine gwR [] ?_ | refine gwD [] ?_); intro Q hQ hP; simp [hC, hY, h4, hg, hx]; (first | refine hQ _ _ _ _ (by kernel_rfl) ?_ | refine hP _ _ (by kernel_rfl) fun _ => ?_); clear hQ hP Q) | refine gwB ?_ | refine gwT ?_ | refine gwK ?_ | refine gwE ?_ | refine gwG ?_ | refine gwL ?_ | simp only [blockG_exit] | (refine gwC ?_ ?_ <;> (intro hb; first | (cases hb; done) | skip)))
            refine ⟨.inr rfl, by simp [Tryd.results22], keep_of G0F (by simp) (by (intro k hk; first | rfl | (simp (disch := omega) only [addB, List.mem_cons, List.not_mem_nil, or_false, upd_other, hpL_cons, hpL_nil, if_neg, updL] <;> done)))⟩
          | true =>
            cases ht : wiB tp 1 65536 with
            | false =>
              have hw : whyS n f g bx tp nr md = ⟨#[116, 111, 112]⟩ := by simp [whyS, h4, hm, hg, hx, ht]
              rw [hw]
              unfold whSt cfB
              repeat' (first | refine gwS ?_ | simp only [wN, wM, Nat.reduceAdd, Nat.reduceMul] | ((first | refine gwR [] ?_ | refine gwD [] ?_); intro Q hQ hP; simp [hC, hY, h4, hg, hx, ht]; (first | refine hQ _ _ _ _ (by kernel_rfl) ?_ | refine hP _ _ (by kernel_rfl) fun _ => ?_); clear hQ hP Q) | refine gwB ?_ | refine gwT ?_ | refine gwK ?_ | refine gwE ?_ | refine gwG ?_ | refine gwL ?_ | simp only [blockG_exit] | (refine gwC ?_ ?_ <;> (intro hb; first | (cases hb; done) | skip)))
              refine ⟨.inr rfl, by simp [Tryd.results22], keep_of G0F (by simp) (by (intro k hk; first | rfl | (simp (disch := omega) only [addB, List.mem_cons, List.not_mem_nil, or_false, upd_other, hpL_cons, hpL_nil, if_neg, updL] <;> done)))⟩
            | true =>
              cases hn : wiB nr 1 (Int.bmod (2 * bx) 18446744073709551616) with
              | false =>
                have hw : whyS n f g bx tp nr md = ⟨#[110, 101, 97, 114]⟩ := by simp [whyS, h4, hm, hg, hx, ht, hn]
                rw [hw]
                unfold whSt cfB
                repeat' (first | refine gwS ?_ | simp only [wN, wM, Nat.reduceAdd, Nat.reduceMul] | ((first | refine gwR [] ?_ | refine gwD [] ?_); intro Q hQ hP; simp [hC, hY, h4, hg, hx, ht, hn]; (first | refine hQ _ _ _ _ (by kernel_rfl) ?_ | refine hP _ _ (by kernel_rfl) fun _ => ?_); clear hQ hP Q) | refine gwB ?_ | refine gwT ?_ | refine gwK ?_ | refine gwE ?_ | refine gwG ?_ | refine gwL ?_ | simp only [blockG_exit] | (refine gwC ?_ ?_ <;> (intro hb; first | (cases hb; done) | skip)))
                refine ⟨.inr rfl, by simp [Tryd.results22], keep_of G0F (by simp) (by (intro k hk; first | rfl | (simp (disch := omega) only [addB, List.mem_cons, List.not_mem_nil, or_false, upd_other, hpL_cons, hpL_nil, if_neg, updL] <;> done)))⟩
              | true =>
                cases hd : wiB md 0 4 with
                | false =>
                  have hw : whyS n f g bx tp nr md = ⟨#[109, 101, 116, 104, 111, 100]⟩ := by simp [whyS, h4, hm, hg, hx, ht, hn, hd]
                  rw [hw]
                  unfold whSt cfB
                  repeat' (first | refine gwS ?_ | simp only [wN, wM, Nat.reduceAdd, Nat.reduceMul] | ((first | refine gwR [] ?_ | refine gwD [] ?_); intro Q hQ hP; simp [hC, hY, h4, hg, hx, ht, hn, hd]; (first | refine hQ _ _ _ _ (by kernel_rfl) ?_ | refine hP _ _ (by kernel_rfl) fun _ => ?_); clear hQ hP Q) | refine gwB ?_ | refine gwT ?_ | refine gwK ?_ | refine gwE ?_ | refine gwG ?_ | refine gwL ?_ | simp only [blockG_exit] | (refine gwC ?_ ?_ <;> (intro hb; first | (cases hb; done) | skip)))
                  refine ⟨.inr rfl, by simp [Tryd.results22], keep_of G0F (by simp) (by (intro k hk; first | rfl | (simp (disch := omega) only [addB, List.mem_cons, List.not_mem_nil, or_false, upd_other, hpL_cons, hpL_nil, if_neg, updL] <;> done)))⟩
                | true =>
                  have hw : whyS n f g bx tp nr md = ⟨#[]⟩ := by simp [whyS, h4, hm, hg, hx, ht, hn, hd]
                  rw [hw]
                  unfold whSt cfB
                  repeat' (first | refine gwS ?_ | simp only [wN, wM, Nat.reduceAdd, Nat.reduceMul] | ((first | refine gwR [] ?_ | refine gwD [] ?_); intro Q hQ hP; simp [hC, hY, h4, hg, hx, ht, hn, hd]; (first | refine hQ _ _ _ _ (by kernel_rfl) ?_ | refine hP _ _ (by kernel_rfl) fun _ => ?_); clear hQ hP Q) | refine gwB ?_ | refine gwT ?_ | refine gwK ?_ | refine gwE ?_ | refine gwG ?_ | refine gwL ?_ | simp only [blockG_exit] | (refine gwC ?_ ?_ <;> (intro hb; first | (cases hb; done) | skip)))
                  refine ⟨.inr rfl, by simp [Tryd.results22], keep_of G0F (by simp) (by (intro k hk; first | rfl | (simp (disch := omega) only [addB, List.mem_cons, List.not_mem_nil, or_false, upd_other, hpL_cons, hpL_nil, if_neg, updL] <;> done)))⟩
      · have hNn' : N < n := by omega
        have hend := hend.resolve_left hNn
        have hm : allM f n = false := by
          cases hm : allM f n with
          | false => rfl
          | true => have := allM_iff.1 hm N hNn'; rw [hend] at this; cases this
        have hw : whyS n f g bx tp nr md = ⟨#[109, 97, 115, 115]⟩ := by simp [whyS, h4, hm]
        rw [hw]
        have hi' : (N : Int) < n := by omega
        have hz : (0 : Int) ≤ N := by omega
        have hld := h.at (i := N) (by omega)
        unfold whSt cfB
        repeat' (first | refine gwS ?_ | simp only [wN, wM, Nat.reduceAdd, Nat.reduceMul] | ((first | refine gwR [] ?_ | refine gwD [] ?_); intro Q hQ hP; simp [hC, hY, hi', hz, hld, hend]; (first | refine hQ _ _ _ _ (by kernel_rfl) ?_ | refine hP _ _ (by kernel_rfl) fun _ => ?_); clear hQ hP Q) | refine gwB ?_ | refine gwT ?_ | refine gwK ?_ | refine gwE ?_ | refine gwG ?_ | refine gwL ?_ | simp only [blockG_exit] | (refine gwC ?_ ?_ <;> (intro hb; first | (cases hb; done) | skip)))
        refine ⟨.inr rfl, by simp [Tryd.results22], keep_of G0F (by simp) (by (intro k hk; first | rfl | (simp (disch := omega) only [addB, List.mem_cons, List.not_mem_nil, or_false, upd_other, hpL_cons, hpL_nil, if_neg, updL] <;> done)))⟩
theorem chk11_fun (b : Blk) (off n cap : Nat) (f : Nat → Int) (h : MB b off n f) (g bx tp nr md : Int) :
    Fun Tryd.prog G0 6 #[cfV (.slice (some ⟨100, off, none⟩) n cap) g bx tp nr md] (hpL G0 [(100, b)]) (keys [(100, b)]) (.ret (.int .i64 (if cfOk n f g bx tp nr md = true then 0 else 110)) []) := by
  refine fun_ofL (B := 200) G0F Tryd.func6 rfl Tryd.call6 (oneL_ok h.fx) ?_ (by simp) (by simp) (by simp) (by simp [Tryd.ntmps6]) (by omega) ?_
  · simp [idsV, idsA, idsF, ids0, keys, cfV]
  intro C hC hC0 hY
  have hr := fun ρ => Blk.fx_rn h.fx ρ
  have hne := whyS_ne2 n f g bx tp nr md
  unfold cfV
  cases hc : cfOk n f g bx tp nr md with
  | true =>
    rw [hc] at hne
    repeat' (first | refine gwS ?_ | simp only [wN, wM, Nat.reduceAdd, Nat.reduceMul] | ((first | refine gwR [22] ?_ | refine gwD [22] ?_); intro Q hQ hP; simp [hC, hY, hne]; (repeat ((first | (refine heapK_mv (why11_fun b off n cap f h g bx tp nr md) G0F (B := 200) (oneL_ok h.fx) (fun k => k) (fun k hk => rfl) (by simp [ren, renA, renF, ren0, cfV]) (by simp) (by simp [hr]) (by simp [keys]) (by simp [keys]; rfl) ?_)); try simp [hC, hY, hne])); (first | refine hQ _ _ _ _ (by kernel_rfl) ?_ | refine hP _ _ (by kernel_rfl) fun _ => ?_); clear hQ hP Q) | refine gwB ?_ | refine gwT ?_ | refine gwK ?_ | refine gwE ?_ | refine gwG ?_ | refine gwL ?_ | simp only [blockG_exit] | (refine gwC ?_ ?_ <;> (intro hb; first | (cases hb; done) | skip)))
    refine ⟨.inr rfl, by simp [Tryd.results6], keep_of G0F (by simp) (by (intro k hk; first | rfl | (simp (disch := omega) only [addB, List.mem_cons, List.not_mem_nil, or_false, upd_other, hpL_cons, hpL_nil, if_neg, updL] <;> done)))⟩
  | false =>
    rw [hc] at hne
    repeat' (first | refine gwS ?_ | simp only [wN, wM, Nat.reduceAdd, Nat.reduceMul] | ((first | refine gwR [22] ?_ | refine gwD [22] ?_); intro Q hQ hP; simp [hC, hY, hne]; (repeat ((first | (refine heapK_mv (why11_fun b off n cap f h g bx tp nr md) G0F (B := 200) (oneL_ok h.fx) (fun k => k) (fun k hk => rfl) (by simp [ren, renA, renF, ren0, cfV]) (by simp) (by simp [hr]) (by simp [keys]) (by simp [keys]; rfl) ?_)); try simp [hC, hY, hne])); (first | refine hQ _ _ _ _ (by kernel_rfl) ?_ | refine hP _ _ (by kernel_rfl) fun _ => ?_); clear hQ hP Q) | refine gwB ?_ | refine gwT ?_ | refine gwK ?_ | refine gwE ?_ | refine gwG ?_ | refine gwL ?_ | simp only [blockG_exit] | (refine gwC ?_ ?_ <;> (intro hb; first | (cases hb; done) | skip)))
    refine ⟨.inr rfl, by simp [Tryd.results6], keep_of G0F (by simp) (by (intro k hk; first | rfl | (simp (disch := omega) only [addB, List.mem_cons, List.not_mem_nil, or_false, upd_other, hpL_cons, hpL_nil, if_neg, updL] <;> done)))⟩
theorem why11_nil (g bx tp nr md : Int) : Ret Tryd.prog G0 22 #[.agg #[.slice none 0 0, .int .i64 g, .int .i64 bx, .int .i64 tp, .int .i64 nr, .int .i64 md]] (.string ⟨#[98, 111, 100, 105, 101, 115]⟩) := by
  refine ret_of G0F Tryd.func22 rfl Tryd.call22 (by simp) (by simp) (by simp [Tryd.ntmps22]) ?_
  intro C hC hC0 hY
  have h4 : wiB 0 1 4 = false := by decide
  repeat' (first | refine gwS ?_ | simp only [wN, wM, Nat.reduceAdd, Nat.reduceMul] | ((first | refine gwR [] ?_ | refine gwD [] ?_); intro Q hQ hP; simp [hC, hY, h4]; (first | refine hQ _ _ _ _ (by kernel_rfl) ?_ | refine hP _ _ (by kernel_rfl) fun _ => ?_); clear hQ hP Q) | refine gwB ?_ | refine gwT ?_ | refine gwK ?_ | refine gwE ?_ | refine gwG ?_ | refine gwL ?_ | simp only [blockG_exit] | (refine gwC ?_ ?_ <;> (intro hb; first | (cases hb; done) | skip)))
  refine ⟨.inr trivial, ?_⟩
  simp [Tryd.results22]
@[simp] theorem why11N (g bx tp nr md : Int) (K : Value → Prop) : callK Tryd.prog G0 22 #[.agg #[.slice none 0 0, .int .i64 g, .int .i64 bx, .int .i64 tp, .int .i64 nr, .int .i64 md]] K ↔ K (.string ⟨#[98, 111, 100, 105, 101, 115]⟩) := callK_iff G0W (by kernel_rfl) (why11_nil g bx tp nr md)

theorem chk11_nil (g bx tp nr md : Int) : Ret Tryd.prog G0 6 #[cfV (.slice none 0 0) g bx tp nr md] (.int .i64 110) := by
  unfold cfV
  refine ret_of G0F Tryd.func6 rfl Tryd.call6 (by simp) (by simp) (by simp [Tryd.ntmps6]) ?_
  intro C hC hC0 hY
  have hne : sneB ⟨#[98, 111, 100, 105, 101, 115]⟩ ⟨#[]⟩ = true := by decide +kernel
  repeat' (first | refine gwS ?_ | simp only [wN, wM, Nat.reduceAdd, Nat.reduceMul] | ((first | refine gwR [] ?_ | refine gwD [] ?_); intro Q hQ hP; simp [hC, hY, hne]; (first | refine hQ _ _ _ _ (by kernel_rfl) ?_ | refine hP _ _ (by kernel_rfl) fun _ => ?_); clear hQ hP Q) | refine gwB ?_ | refine gwT ?_ | refine gwK ?_ | refine gwE ?_ | refine gwG ?_ | refine gwL ?_ | simp only [blockG_exit] | (refine gwC ?_ ?_ <;> (intro hb; first | (cases hb; done) | skip)))
  refine ⟨.inr trivial, ?_⟩
  simp [Tryd.results6]
@[simp] theorem chk11N (g bx tp nr md : Int) (K : Value → Prop) : callK Tryd.prog G0 6 #[.agg #[.slice none 0 0, .int .i64 g, .int .i64 bx, .int .i64 tp, .int .i64 nr, .int .i64 md]] K ↔ K (.int .i64 110) := callK_iff G0W (by kernel_rfl) (chk11_nil g bx tp nr md)
theorem prs_at {st : Int} {f : Nat → Int} {n : Nat} (h : rightB st f n = true) {i : Nat} (hi : i < (prs st f n).length) : ∃ a b, a < b ∧ b < n ∧ (prs st f n)[i]? = some (prOf f a b) := by
  unfold prs at hi ⊢
  rw [if_pos h] at hi ⊢
  rcases pr_n h with rfl | rfl | rfl | rfl
  · simp [prsN] at hi
  · simp only [prsN, List.length_cons, List.length_nil] at hi
    obtain rfl : i = 0 := by omega
    exact ⟨0, 1, by omega, by omega, rfl⟩
  · simp only [prsN, List.length_cons, List.length_nil] at hi
    obtain rfl | rfl | rfl : i = 0 ∨ i = 1 ∨ i = 2 := by omega
    · exact ⟨0, 1, by omega, by omega, rfl⟩
    · exact ⟨0, 2, by omega, by omega, rfl⟩
    · exact ⟨1, 2, by omega, by omega, rfl⟩
  · simp only [prsN, List.length_cons, List.length_nil] at hi
    obtain rfl | rfl | rfl | rfl | rfl | rfl : i = 0 ∨ i = 1 ∨ i = 2 ∨ i = 3 ∨ i = 4 ∨ i = 5 := by omega
    · exact ⟨0, 1, by omega, by omega, rfl⟩
    · exact ⟨0, 2, by omega, by omega, rfl⟩
    · exact ⟨0, 3, by omega, by omega, rfl⟩
    · exact ⟨1, 2, by omega, by omega, rfl⟩
    · exact ⟨1, 3, by omega, by omega, rfl⟩
    · exact ⟨2, 3, by omega, by omega, rfl⟩
theorem prs_count {st : Int} {f : Nat → Int} {n : Nat} (h : rightB st f n = true) : ∃ m1 m2 : Int, Int.bmod ((n : Int) - 1) 18446744073709551616 = m1 ∧ Int.bmod ((n : Int) * m1) 18446744073709551616 = m2 ∧ Int.bmod (m2.tdiv 2) 18446744073709551616 = (((prs st f n).length : Nat) : Int) := by
  unfold prs
  rw [if_pos h]
  rcases pr_n h with rfl | rfl | rfl | rfl
  · exact ⟨0, 0, by decide +kernel, by decide +kernel, by simp only [prsN]; decide +kernel⟩
  · exact ⟨1, 2, by decide +kernel, by decide +kernel, by simp only [prsN, List.length_cons, List.length_nil]; decide +kernel⟩
  · exact ⟨2, 6, by decide +kernel, by decide +kernel, by simp only [prsN, List.length_cons, List.length_nil]; decide +kernel⟩
  · exact ⟨3, 12, by decide +kernel, by decide +kernel, by simp only [prsN, List.length_cons, List.length_nil]; decide +kernel⟩
theorem sqd_bd {d : Int} (h1 : -2097152 ≤ d) (h2 : d ≤ 2097152) : 0 ≤ d * d ∧ d * d ≤ 4398046511104 := by
  rcases Int.le_total 0 d with h | h
  · have k : d * d ≤ 2097152 * 2097152 := Int.mul_le_mul h2 h2 h (by decide)
    exact ⟨Int.mul_nonneg h h, k⟩
  · have k : -d * -d ≤ 2097152 * 2097152 := Int.mul_le_mul (by omega) (by omega) (by omega) (by decide)
    have e : -d * -d = d * d := by rw [Int.neg_mul_neg]
    rw [e] at k
    exact ⟨by rw [← e]; exact Int.mul_nonneg (by omega) (by omega), k⟩
theorem sq_parts {st : Int} {f : Nat → Int} {n : Nat} (h : rightB st f n = true) {a b : Nat} (ha : a < n) (hb : b < n) : ∃ d0 d1 d2 e0 e1 e2 s1 : Int, Int.bmod (f (6 * a) - f (6 * b)) 18446744073709551616 = d0 ∧ Int.bmod (f (6 * a + 1) - f (6 * b + 1)) 18446744073709551616 = d1 ∧ Int.bmod (f (6 * a + 2) - f (6 * b + 2)) 18446744073709551616 = d2 ∧
    Int.bmod (d0 * d0) 18446744073709551616 = e0 ∧ Int.bmod (d1 * d1) 18446744073709551616 = e1 ∧ Int.bmod (d2 * d2) 18446744073709551616 = e2 ∧ Int.bmod e0 18446744073709551616 = e0 ∧ Int.bmod (e0 + e1) 18446744073709551616 = s1 ∧ Int.bmod (s1 + e2) 18446744073709551616 = sqF f a b ∧ 0 ≤ sqF f a b ∧ sqF f a b ≤ 13194139533312 := by
  have k := (right_b h ha).1
  have k' := (right_b h hb).1
  have e := sq_of k k'
  unfold inW at k k'
  have q0 := sqd_bd (d := f (6 * a) - f (6 * b)) (by omega) (by omega)
  have q1 := sqd_bd (d := f (6 * a + 1) - f (6 * b + 1)) (by omega) (by omega)
  have q2 := sqd_bd (d := f (6 * a + 2) - f (6 * b + 2)) (by omega) (by omega)
  refine ⟨f (6 * a) - f (6 * b), f (6 * a + 1) - f (6 * b + 1), f (6 * a + 2) - f (6 * b + 2), _, _, _, _, bm (by omega) (by omega), bm (by omega) (by omega), bm (by omega) (by omega), bm (by omega) (by omega), bm (by omega) (by omega), bm (by omega) (by omega), bm (by omega) (by omega), bm (by omega) (by omega), ?_, ?_⟩
  · unfold sqF
    rw [e]
    exact bm (by omega) (by omega)
  · unfold sqF
    rw [e]
    omega
theorem near_isq {n : Nat} {f : Nat → Int} {g bx tp nr md : Int} (h : cfOk n f g bx tp nr md = true) : (1 ≤ nr ∧ nr ≤ 2097152) ∧ Int.bmod (nr * nr) 18446744073709551616 = nr * nr ∧ ∀ q, 0 ≤ q → (q < nr * nr ↔ isq q < nr) := by
  unfold cfOk at h
  simp only [Bool.and_eq_true, wiB, decide_eq_true_eq] at h
  have hb := h.2.2.2.1
  have hn := h.2.2.2.2.2.1
  have e : Int.bmod (2 * bx) 18446744073709551616 = 2 * bx := bm (by omega) (by omega)
  rw [e] at hn
  have hq := sqd_bd (d := nr) (by omega) (by omega)
  refine ⟨by omega, bm (by omega) (by omega), fun q hq0 => ?_⟩
  obtain ⟨s0, s1, s2⟩ := isq_spec q hq0
  constructor
  · intro h1
    refine Classical.byContradiction fun h2 => ?_
    have : nr * nr ≤ isq q * isq q := Int.mul_le_mul (by omega) (by omega) (by omega) (by omega)
    omega
  · intro h1
    have : (isq q + 1) * (isq q + 1) ≤ nr * nr := Int.mul_le_mul (by omega) (by omega) (by omega) (by omega)
    omega
theorem near_not {ok : Bool} {nr : Int} {l : List Pr} {i : Nat} (hi : i < l.length) (h : nearB ok nr (pF l (3 * i + 2)) = false) (hk : cntN ok nr l i < (nearL ok nr l).length) :
    (pF (nearL ok nr l) (3 * cntN ok nr l i) == pF l (3 * i) && (pF (nearL ok nr l) (3 * cntN ok nr l i + 1) == pF l (3 * i + 1) && pF (nearL ok nr l) (3 * cntN ok nr l i + 2) == pF l (3 * i + 2))) = false := by
  have e : (nearL ok nr l)[cntN ok nr l i]? = some (nearL ok nr l)[cntN ok nr l i] := by simp [hk]
  have hm : nearB ok nr (nearL ok nr l)[cntN ok nr l i].2.2 = true := by
    have := List.getElem_mem hk
    unfold nearL at this
    exact (List.mem_filter.1 this).2
  rw [(pF_at e).2.2]
  cases hq : (nearL ok nr l)[cntN ok nr l i].2.2 == pF l (3 * i + 2) with
  | false => simp
  | true =>
    rw [beq_iff_eq] at hq
    rw [hq, h] at hm
    cases hm
theorem cnt_lt {ok : Bool} {nr : Int} {l : List Pr} {i : Nat} (hi : i < l.length) (h : nearB ok nr (pF l (3 * i + 2)) = true) : cntN ok nr l i < (nearL ok nr l).length := (List.getElem?_eq_some_iff.1 (near_get hi h)).1
theorem cnt_len {ok : Bool} {nr : Int} {l : List Pr} {i : Nat} (hi : i ≤ l.length) : cntN ok nr l i ≤ (nearL ok nr l).length := by
  unfold cntN nearL
  exact List.Sublist.length_le (List.Sublist.filter _ (List.take_sublist _ _))
theorem way_law {q : Int} (h0 : 0 ≤ q) (h1 : q ≤ 13194139533312) : ∃ r h r1 rr nn : Int, isq q = r ∧ wyLo q = r ∧ wyHi q = h ∧ ¬ r < 0 ∧ ¬ h < r ∧ Int.bmod (r + 1) 18446744073709551616 = r1 ∧ ¬ r1 < h ∧ Int.bmod (r * r) 18446744073709551616 = rr ∧ Int.bmod (h * h) 18446744073709551616 = nn ∧ ¬ q < rr ∧ ¬ nn < q ∧
    ((h = r ∧ rr = q ∧ nn = q) ∨ ((h == r) = false ∧ r < h ∧ (nn == q) = false)) := by
  obtain ⟨s0, s1, s2⟩ := isq_spec q h0
  have e0 : wyLo q = isq q := if_pos h0
  have e1 : wyHi q = if isq q * isq q = q then isq q else isq q + 1 := if_pos h0
  generalize isq q = r at *
  have hr : r ≤ 4194304 := by
    refine Classical.byContradiction fun c => ?_
    have : (4194304 : Int) * 4194304 ≤ r * r := Int.mul_le_mul (by omega) (by omega) (by omega) s0
    omega
  have b1 : Int.bmod (r + 1) 18446744073709551616 = r + 1 := bm (by omega) (by omega)
  have hrr : 0 ≤ r * r := Int.mul_nonneg s0 s0
  have b2 : Int.bmod (r * r) 18446744073709551616 = r * r := bm (by omega) (by omega)
  have hnn0 : 0 ≤ (r + 1) * (r + 1) := Int.mul_nonneg (by omega) (by omega)
  have hnn : (r + 1) * (r + 1) ≤ 4194305 * 4194305 := Int.mul_le_mul (by omega) (by omega) (by omega) (by decide)
  have b3 : Int.bmod ((r + 1) * (r + 1)) 18446744073709551616 = (r + 1) * (r + 1) := bm (by omega) (by omega)
  by_cases e : r * r = q
  · rw [if_pos e] at e1
    exact ⟨r, r, r + 1, r * r, r * r, rfl, e0, e1, by omega, by omega, b1, by omega, b2, b2, by omega, by omega, .inl ⟨rfl, e, e⟩⟩
  · rw [if_neg e] at e1
    refine ⟨r, r + 1, r + 1, r * r, (r + 1) * (r + 1), rfl, e0, e1, by omega, by omega, b1, by omega, b2, b3, by omega, by omega, .inr ⟨by simp; omega, by omega, by simp; omega⟩⟩
theorem ne_i64 {q : Int} (h0 : 0 ≤ q) (h1 : q ≤ 13194139533312) : i64 q := ⟨by omega, by omega⟩
theorem ne_lt0 {i n : Nat} (h : i < n) : 3 * i < 3 * n := by omega
theorem ne_lt {i n u : Nat} (h : i < n) (hu : u < 3) : 3 * i + u < 3 * n := by omega
theorem ls_fold : ∀ (l : List Pr) (p : Pr), zP p = false → (∀ x ∈ l, zP x = false) → (l.foldl lsStep p = p ∨ l.foldl lsStep p ∈ l) ∧ (l.foldl lsStep p).2.2 ≤ p.2.2 ∧ (∀ x ∈ l, (l.foldl lsStep p).2.2 ≤ x.2.2) ∧ zP (l.foldl lsStep p) = false
  | [], p, hp, _ => ⟨.inl rfl, Int.le_refl _, (fun _ h => nomatch h), hp⟩
  | q :: l, p, hp, hl => by
    have hq := hl q (by simp)
    have hz : zP (lsStep p q) = false := by
      unfold lsStep
      split
      · exact hq
      · exact hp
    have h1 : (lsStep p q).2.2 ≤ p.2.2 ∧ (lsStep p q).2.2 ≤ q.2.2 ∧ (lsStep p q = p ∨ lsStep p q = q) := by
      unfold lsStep
      split
      · rename_i c
        rcases c with c | c
        · rw [hp] at c; cases c
        · exact ⟨by omega, Int.le_refl _, .inr rfl⟩
      · rename_i c
        exact ⟨Int.le_refl _, by simp only [not_or] at c; omega, .inl rfl⟩
    obtain ⟨a, b, c, d⟩ := ls_fold l (lsStep p q) hz fun x hx => hl x (List.mem_cons_of_mem _ hx)
    rw [List.foldl_cons]
    refine ⟨?_, by omega, fun x hx => ?_, d⟩
    · rcases a with a | a
      · rw [a]
        rcases h1.2.2 with e | e
        · exact .inl e
        · right; rw [e]; simp
      · exact .inr (List.mem_cons_of_mem _ a)
    · rcases List.mem_cons.1 hx with rfl | hx
      · omega
      · exact c x hx
theorem ls_ne {l : List Pr} (h0 : l ≠ []) (hl : ∀ x ∈ l, zP x = false) : zP (lsAll l) = false ∧ ∀ x ∈ l, (lsAll l).2.2 ≤ x.2.2 := by
  match l, h0 with
  | q :: l, _ =>
    have e : lsStep (0, 0, 0) q = q := by
      unfold lsStep
      rw [if_pos (.inl (by decide))]
    unfold lsAll
    rw [List.foldl_cons, e]
    obtain ⟨_, b, c, d⟩ := ls_fold l q (hl q (by simp)) fun x hx => hl x (List.mem_cons_of_mem _ hx)
    refine ⟨d, fun x hx => ?_⟩
    rcases List.mem_cons.1 hx with rfl | hx
    · exact b
    · exact c x hx
theorem prs_zP {st : Int} {f : Nat → Int} {n : Nat} (h : rightB st f n = true) : ∀ x ∈ prs st f n, zP x = false := fun x hx => by
  obtain ⟨i, hi, e⟩ := List.mem_iff_getElem.1 hx
  obtain ⟨a, b, hab, _, e2⟩ := prs_at h hi
  rw [List.getElem?_eq_getElem hi, e] at e2
  simp only [Option.some.injEq] at e2
  subst e2
  unfold zP prOf
  have : ((b : Int) == 0) = false := by simp; omega
  simp [this]
theorem ls_law {st : Int} {f : Nat → Int} {n : Nat} (h : rightB st f n = true) {ok : Bool} {nr : Int} (hok : ok = true) (hnn : Int.bmod (nr * nr) 18446744073709551616 = nr * nr) : (!(zP (lsAll (prs st f n)))) = decide (0 < (prs st f n).length) ∧ (0 < (nearL ok nr (prs st f n)).length → (lsAll (prs st f n)).2.2 < nr * nr) ∧ (anyN ok nr (prs st f n) = decide (0 < (nearL ok nr (prs st f n)).length)) := by
  refine ⟨?_, fun hk => ?_, ?_⟩
  · by_cases h0 : prs st f n = []
    · rw [h0]; decide
    · rw [(ls_ne h0 (prs_zP h)).1]
      have := List.length_pos_iff.2 h0
      simp [this]
  · obtain ⟨x, hm⟩ := List.length_pos_iff_exists_mem.1 hk
    unfold nearL at hm
    obtain ⟨h1, h2⟩ := List.mem_filter.1 hm
    have h3 := (ls_ne (List.ne_nil_of_mem h1) (prs_zP h)).2 _ h1
    unfold nearB at h2
    rw [hok, hnn] at h2
    simp only [Bool.true_and, decide_eq_true_eq] at h2
    omega
  · rw [Bool.eq_iff_iff, decide_eq_true_eq]
    unfold anyN nearL
    rw [List.any_eq_true, List.length_pos_iff_exists_mem]
    constructor
    · rintro ⟨x, hx, hn⟩
      exact ⟨x, List.mem_filter.2 ⟨hx, hn⟩⟩
    · rintro ⟨x, hx⟩
      exact ⟨x, (List.mem_filter.1 hx).1, (List.mem_filter.1 hx).2⟩
theorem psr_ld {c n : Nat} {g : Nat → Int} (hc : n ≤ c) {i : Nat} (hi : i < n) : loadK Tryd.prog 36 ⟨fa (3 * c) .i64 g, .ty 36⟩ (i * 3) = some (.agg #[.int .i64 (g (3 * i)), .int .i64 (g (3 * i + 1)), .int .i64 (g (3 * i + 2))]) := by
  have := loadK_rd (P := Tryd.prog) (T := 36) (m := 3) (j := 3 * i) (tyAgg_of Tryd.isAgg36) (tySize_of Tryd.sizeOf36) (by omega) (rdI_fa (3 * c) g (.ty 36)) (by omega)
  rw [show i * 3 = 0 + 3 * i by omega, this, fa_3]
  rfl
def nkE (ok rt : Bool) (nr : Int) (l : List Pr) : Int := if ok = true then if rt = true then if anyN ok nr l = true then 130 else 0 else 2 else 2
set_option maxRecDepth 8000 in
set_option maxHeartbeats 4000000 in
theorem nCheck_L (L : List (Nat × Blk)) (ks : Nat) (bm bs : Blk) (hT : LTwo G0 L ks bm bs) (off n cap off2 n2 cap2 : Nat) (fm fs : Nat → Int) (hm : MB bm off n fm) (hSb : SB bs off2 n2 fs) (hcap : n2 ≤ cap2) (g bx tp nr md st : Int) (hs : i64 st) :
    Fun Tryd.prog G0 13 #[cfV (.slice (some ⟨100, off, none⟩) n cap) g bx tp nr md, .agg #[.int .i64 st, .slice (some ⟨ks, off2, none⟩) n2 cap2]] (hpL G0 L) (keys L) (.ret (.int .i64 (nkE (cfOk n fm g bx tp nr md) (rightB st fs n2) nr (prs st fs n2))) []) := by
  refine fun_ofL (B := 200) G0F Tryd.func13 rfl Tryd.call13 hT.ok ?_ (by simp) (by simp) (by simp) (by simp [Tryd.ntmps13]) (by omega) ?_
  · simp [idsV, idsA, idsF, ids0, hT.ia, hT.ib, cfV]
  intro C hC hC0 hY
  have hA := hT.a
  have hS := hT.s
  have hne := hT.ne
  have hLow := hT.low
  have hks := hT.k1
  have hks2 := hT.k2
  have hrm := fun ρ => Blk.fx_rn hm.fx ρ
  have hrs := fun ρ => Blk.fx_rn hSb.fx ρ
  have hln := prs_len st fs n2
  have hcl := close_at 320 (by omega) bm off n cap fm hm g bx tp nr md
  have hpr := nPairs_at ks 304 hks (by omega) (by omega) bs off2 n2 cap2 fs hSb hcap st hs
  have hck := check_fun bm off n cap fm hm g bx tp nr md
  obtain ⟨l, hl⟩ : ∃ l, prs st fs n2 = l := ⟨_, rfl⟩
  rw [hl] at hpr hln ⊢
  unfold nkE cfV
  cases ok : cfOk n fm g bx tp nr md with
  | false =>
    rw [ok] at hck
    simp only [Bool.false_eq_true, if_false] at hck ⊢
    repeat' (first | refine gwS ?_ | simp only [wN, wM, Nat.reduceAdd, Nat.reduceMul] | ((first | refine gwR [29, 30] ?_ | refine gwD [29, 30] ?_); intro Q hQ hP; simp [hC, hY, hA, hS, hne]; (repeat ((first | (refine heapK_mv hck G0F (B := 200) (oneL_ok hm.fx) (fun k => k) (fun k hk => rfl) (by simp [ren, renA, renF, ren0, cfV]) (by simp) (by simp [hrm, hA]) (by simp [keys]) (by simp [keys]; rfl) ?_)); try simp [hC, hY, hA, hS, hne])); (first | refine hQ _ _ _ _ (by kernel_rfl) ?_ | refine hP _ _ (by kernel_rfl) fun _ => ?_); clear hQ hP Q) | refine gwB ?_ | refine gwT ?_ | refine gwK ?_ | refine gwE ?_ | refine gwG ?_ | refine gwL ?_ | simp only [blockG_exit] | (refine gwC ?_ ?_ <;> (intro hb; first | (cases hb; done) | skip)))
    refine ⟨.inr rfl, by simp [Tryd.results13], keep_of G0F (by (intro p hp; have hpb := hT.ok.big p hp; first | rfl | (simp (disch := omega) only [addB, upd_other, hpL_cons, hpL_nil, if_neg, updL, List.cons_append, List.nil_append] <;> done))) (by (intro k hk; first | exact hLow k hk | (simp (disch := omega) only [hLow, addB, List.mem_cons, List.not_mem_nil, or_false, upd_other, hpL_cons, hpL_nil, if_neg, updL, List.cons_append, List.nil_append] <;> done)))⟩
  | true =>
    rw [ok] at hck hcl
    simp only [if_true] at hck ⊢
    cases rt : rightB st fs n2 with
    | false =>
      simp only [Bool.false_eq_true, if_false]
      repeat' (first | refine gwS ?_ | simp only [wN, wM, Nat.reduceAdd, Nat.reduceMul] | ((first | refine gwR [29, 30] ?_ | refine gwD [29, 30] ?_); intro Q hQ hP; simp [hC, hY, rt, hA, hS, hne]; (repeat ((first | (refine heapK_mv hck G0F (B := 200) (oneL_ok hm.fx) (fun k => k) (fun k hk => rfl) (by simp [ren, renA, renF, ren0, cfV]) (by simp) (by simp [hrm, hA]) (by simp [keys]) (by simp [keys]; rfl) ?_) | (refine heapK_mv (rig_fun bs off2 n2 cap2 fs hSb st hs) G0F (B := 200) (oneL_ok hSb.fx) (fun k => if k = 100 then ks else k) (fun k hk => if_neg (by omega)) (by simp [ren, renA, renF, ren0]) (by simp) (by simp [hrs, hS, hne, hks]) (by simp [keys]) (by simp [keys]; rfl) ?_)); try simp [hC, hY, rt, hA, hS, hne])); (first | refine hQ _ _ _ _ (by kernel_rfl) ?_ | refine hP _ _ (by kernel_rfl) fun _ => ?_); clear hQ hP Q) | refine gwB ?_ | refine gwT ?_ | refine gwK ?_ | refine gwE ?_ | refine gwG ?_ | refine gwL ?_ | simp only [blockG_exit] | (refine gwC ?_ ?_ <;> (intro hb; first | (cases hb; done) | skip)))
      refine ⟨.inr rfl, by simp [Tryd.results13], keep_of G0F (by (intro p hp; have hpb := hT.ok.big p hp; first | rfl | (simp (disch := omega) only [addB, upd_other, hpL_cons, hpL_nil, if_neg, updL, List.cons_append, List.nil_append] <;> done))) (by (intro k hk; first | exact hLow k hk | (simp (disch := omega) only [hLow, addB, List.mem_cons, List.not_mem_nil, or_false, upd_other, hpL_cons, hpL_nil, if_neg, updL, List.cons_append, List.nil_append] <;> done)))⟩
    | true =>
      simp only [if_true]
      repeat' (first | refine gwS ?_ | simp only [wN, wM, Nat.reduceAdd, Nat.reduceMul] | ((first | refine gwR [29, 30] ?_ | refine gwD [29, 30] ?_); intro Q hQ hP; simp [hC, hY, rt, hA, hS, hne]; (repeat ((first | (refine heapK_mv hck G0F (B := 200) (oneL_ok hm.fx) (fun k => k) (fun k hk => rfl) (by simp [ren, renA, renF, ren0, cfV]) (by simp) (by simp [hrm, hA]) (by simp [keys]) (by simp [keys]; rfl) ?_) | (refine heapK_mv (rig_fun bs off2 n2 cap2 fs hSb st hs) G0F (B := 200) (oneL_ok hSb.fx) (fun k => if k = 100 then ks else k) (fun k hk => if_neg (by omega)) (by simp [ren, renA, renF, ren0]) (by simp) (by simp [hrs, hS, hne, hks]) (by simp [keys]) (by simp [keys]; rfl) ?_)); try simp [hC, hY, rt, hA, hS, hne])); (first | refine hQ _ _ _ _ (by kernel_rfl) ?_ | refine hP _ _ (by kernel_rfl) fun _ => ?_); clear hQ hP Q) | refine gwB ?_ | refine gwT ?_ | refine gwK ?_ | refine gwE ?_ | refine gwG ?_ | refine gwL ?_ | simp only [blockG_exit] | (refine gwC ?_ ?_ <;> (intro hb; first | (cases hb; done) | skip)))
      by_cases hl0 : l = []
      · subst hl0
        have hany : anyN true nr [] = false := rfl
        rw [hany]
        simp only [Bool.false_eq_true, if_false]
        refine GW_any follows ?_
        simp only [Array.toList, List.length_cons, List.length_nil, Nat.reduceAdd]
        repeat' (first
          | refine GA_step [0, 2] (by decide +kernel) rfl (all_two ?_ ?_)
          | refine GA_step [1, 2] (by decide +kernel) rfl (all_two ?_ ?_)
          | refine GA_step [0, 3] (by decide +kernel) rfl (all_two ?_ ?_)
          | refine GA_step [1, 3] (by decide +kernel) rfl (all_two ?_ ?_)
          | refine GA_step [0] (by decide +kernel) rfl (all_one ?_)
          | refine GA_step [1] (by decide +kernel) rfl (all_one ?_)
          | refine GA_step [2] (by decide +kernel) rfl (all_one ?_)
          | refine GA_step [3] (by decide +kernel) rfl (all_one ?_)
          | refine GA_step [4] (by decide +kernel) rfl (all_one ?_)
          | refine GA_step [5] (by decide +kernel) rfl (all_one ?_)
          | refine GA_nil (by decide +kernel) ?_
          | (
            refine GO_walk [31] rfl (by kernel_rfl) (by first | assumption | simp) ?_; intro q hq; simp [hC, hY, putT, updL, hA, hS, hne]; (repeat ((first | (refine heapK_mv (pcf0_fun bm off n cap hm.fx g bx tp nr md true) G0F (B := 200) (clL_ok hm.fx off n cap g bx tp nr md true) (fun k => if k = 108 then 320 else if k = 116 then 321 else k) (fun k hk => (if_neg (by omega)).trans (if_neg (by omega))) (by simp [ren, renA, renF, ren0]) (by simp) (by simp [clL, hrm, cfB_rn, bB_rn, hA]) (by simp [keys, clL]) (by simp [keys, clL]; rfl) ?_)); try simp [hC, hY, putT, updL, hA, hS, hne])); refine hq _ _ _ _ ?_; clear hq q
            )
          | (refine GO_callL (f := .func 9) (cap := #[]) hC hpr rfl rfl rfl (by simp) rfl rfl (by simp [okT]) (by simp [gev]) (by simp) (by simp [okX, putT, junk, upd]) (by simp [gev, putT, upd]) (by simp [updL, hA, hS, hne]) (by (intro k hk; first | exact hLow k hk | (simp (disch := omega) only [hLow, addB, List.mem_cons, List.not_mem_nil, or_false, upd_other, hpL_cons, hpL_nil, if_neg, updL, List.cons_append, List.nil_append] <;> done))) ?_ ?_
             · intro v ns hV k hk
               rw [prR_key hV k hk]
               simp
             rintro v ns (⟨_, rfl, rfl⟩ | ⟨c, a, hi0, hic, hg, rfl, rfl⟩)
             rotate_left
             · exact absurd hi0 (by simp)
             )
          | (refine GO_callL (f := .func 27) (cap := #[]) hC hcl rfl rfl rfl (by simp) rfl rfl (by simp [okT]) (by simp [gev]) (by simp) (by simp [okX, putT, junk, upd]) (by simp [gev, putT, upd, cfV]) (by simp [updL, hA, hS, hne]) (by (intro k hk; first | exact hLow k hk | (simp (disch := omega) only [hLow, addB, List.mem_cons, List.not_mem_nil, or_false, upd_other, hpL_cons, hpL_nil, if_neg, updL, List.cons_append, List.nil_append] <;> done))) ?_ ?_
             · intro v ns hV k hk
               have := closeR_key hV k hk
               simp
               omega
             rintro v ns ⟨rfl, rfl⟩)
          )
        all_goals (
          repeat' (first | refine gwS ?_ | simp only [wN, wM, Nat.reduceAdd, Nat.reduceMul] | ((first | refine gwR [] ?_ | refine gwD [] ?_); intro Q hQ hP; simp [hC, hY, hA, hS, hne]; (first | refine hQ _ _ _ _ (by kernel_rfl) ?_ | refine hP _ _ (by kernel_rfl) fun _ => ?_); clear hQ hP Q) | refine gwB ?_ | refine gwT ?_ | refine gwK ?_ | refine gwE ?_ | refine gwG ?_ | refine gwL ?_ | simp only [blockG_exit] | (refine gwC ?_ ?_ <;> (intro hb; first | (cases hb; done) | skip)))
          )
        all_goals (refine ⟨.inr rfl, by simp [Tryd.results13], keep_of G0F (by (intro p hp; have hpb := hT.ok.big p hp; first | rfl | (simp (disch := omega) only [addB, upd_other, hpL_cons, hpL_nil, if_neg, updL, List.cons_append, List.nil_append] <;> done))) (by (intro k hk; first | exact hLow k hk | (simp (disch := omega) only [hLow, addB, List.mem_cons, List.not_mem_nil, or_false, upd_other, hpL_cons, hpL_nil, if_neg, updL, List.cons_append, List.nil_append] <;> done)))⟩)
      · cases hany : anyN true nr l with
        | false =>
          simp only [Bool.false_eq_true, if_false]
          refine GW_any follows ?_
          simp only [Array.toList, List.length_cons, List.length_nil, Nat.reduceAdd]
          repeat' (first
            | refine GA_step [0, 2] (by decide +kernel) rfl (all_two ?_ ?_)
            | refine GA_step [1, 2] (by decide +kernel) rfl (all_two ?_ ?_)
            | refine GA_step [0, 3] (by decide +kernel) rfl (all_two ?_ ?_)
            | refine GA_step [1, 3] (by decide +kernel) rfl (all_two ?_ ?_)
            | refine GA_step [0] (by decide +kernel) rfl (all_one ?_)
            | refine GA_step [1] (by decide +kernel) rfl (all_one ?_)
            | refine GA_step [2] (by decide +kernel) rfl (all_one ?_)
            | refine GA_step [3] (by decide +kernel) rfl (all_one ?_)
            | refine GA_step [4] (by decide +kernel) rfl (all_one ?_)
            | refine GA_step [5] (by decide +kernel) rfl (all_one ?_)
            | refine GA_nil (by decide +kernel) ?_
            | (
              refine GO_walk [31] rfl (by kernel_rfl) (by first | assumption | simp) ?_; intro q hq; simp [hC, hY, putT, updL, hA, hS, hne, hany]; (repeat ((first | (refine heapK_mv (pcf_fun bm off n cap hm.fx g bx tp nr md true l c a hln hic hg) G0F (B := 200) (ipL_ok hm.fx off n cap g bx tp nr md true c a) (fun k => if k = 108 then 320 else if k = 116 then 321 else if k = 124 then 304 else k) (fun k hk => (if_neg (by omega)).trans ((if_neg (by omega)).trans (if_neg (by omega)))) (by simp [ren, renA, renF, ren0]) (by simp) (by simp [ipL, hrm, cfB_rn, bB_rn, fa_rn, hA]) (by simp [keys, ipL]) (by simp [keys, ipL]; rfl) ?_)); try simp [hC, hY, putT, updL, hA, hS, hne, hany])); refine hq _ _ _ _ ?_; clear hq q
              )
            | (refine GO_callL (f := .func 9) (cap := #[]) hC hpr rfl rfl rfl (by simp) rfl rfl (by simp [okT]) (by simp [gev]) (by simp) (by simp [okX, putT, junk, upd]) (by simp [gev, putT, upd]) (by simp [updL, hA, hS, hne]) (by (intro k hk; first | exact hLow k hk | (simp (disch := omega) only [hLow, addB, List.mem_cons, List.not_mem_nil, or_false, upd_other, hpL_cons, hpL_nil, if_neg, updL, List.cons_append, List.nil_append] <;> done))) ?_ ?_
               · intro v ns hV k hk
                 rw [prR_key hV k hk]
                 simp
               rintro v ns (⟨h0, rfl, rfl⟩ | ⟨c, a, hi0, hic, hg, rfl, rfl⟩)
               · exact absurd (List.length_eq_zero_iff.1 h0) hl0
               )
            | (refine GO_callL (f := .func 27) (cap := #[]) hC hcl rfl rfl rfl (by simp) rfl rfl (by simp [okT]) (by simp [gev]) (by simp) (by simp [okX, putT, junk, upd]) (by simp [gev, putT, upd, cfV]) (by simp [updL, hA, hS, hne]) (by (intro k hk; first | exact hLow k hk | (simp (disch := omega) only [hLow, addB, List.mem_cons, List.not_mem_nil, or_false, upd_other, hpL_cons, hpL_nil, if_neg, updL, List.cons_append, List.nil_append] <;> done))) ?_ ?_
               · intro v ns hV k hk
                 have := closeR_key hV k hk
                 simp
                 omega
               rintro v ns ⟨rfl, rfl⟩)
            )
          all_goals (
            repeat' (first | refine gwS ?_ | simp only [wN, wM, Nat.reduceAdd, Nat.reduceMul] | ((first | refine gwR [] ?_ | refine gwD [] ?_); intro Q hQ hP; simp [hC, hY, hA, hS, hne]; (first | refine hQ _ _ _ _ (by kernel_rfl) ?_ | refine hP _ _ (by kernel_rfl) fun _ => ?_); clear hQ hP Q) | refine gwB ?_ | refine gwT ?_ | refine gwK ?_ | refine gwE ?_ | refine gwG ?_ | refine gwL ?_ | simp only [blockG_exit] | (refine gwC ?_ ?_ <;> (intro hb; first | (cases hb; done) | skip)))
            )
          all_goals (refine ⟨.inr rfl, by simp [Tryd.results13], keep_of G0F (by (intro p hp; have hpb := hT.ok.big p hp; first | rfl | (simp (disch := omega) only [addB, upd_other, hpL_cons, hpL_nil, if_neg, updL, List.cons_append, List.nil_append] <;> done))) (by (intro k hk; first | exact hLow k hk | (simp (disch := omega) only [hLow, addB, List.mem_cons, List.not_mem_nil, or_false, upd_other, hpL_cons, hpL_nil, if_neg, updL, List.cons_append, List.nil_append] <;> done)))⟩)
        | true =>
          simp only [if_true]
          refine GW_any follows ?_
          simp only [Array.toList, List.length_cons, List.length_nil, Nat.reduceAdd]
          repeat' (first
            | refine GA_step [0, 2] (by decide +kernel) rfl (all_two ?_ ?_)
            | refine GA_step [1, 2] (by decide +kernel) rfl (all_two ?_ ?_)
            | refine GA_step [0, 3] (by decide +kernel) rfl (all_two ?_ ?_)
            | refine GA_step [1, 3] (by decide +kernel) rfl (all_two ?_ ?_)
            | refine GA_step [0] (by decide +kernel) rfl (all_one ?_)
            | refine GA_step [1] (by decide +kernel) rfl (all_one ?_)
            | refine GA_step [2] (by decide +kernel) rfl (all_one ?_)
            | refine GA_step [3] (by decide +kernel) rfl (all_one ?_)
            | refine GA_step [4] (by decide +kernel) rfl (all_one ?_)
            | refine GA_step [5] (by decide +kernel) rfl (all_one ?_)
            | refine GA_nil (by decide +kernel) ?_
            | (
              refine GO_walk [31] rfl (by kernel_rfl) (by first | assumption | simp) ?_; intro q hq; simp [hC, hY, putT, updL, hA, hS, hne, hany]; (repeat ((first | (refine heapK_mv (pcf_fun bm off n cap hm.fx g bx tp nr md true l c a hln hic hg) G0F (B := 200) (ipL_ok hm.fx off n cap g bx tp nr md true c a) (fun k => if k = 108 then 320 else if k = 116 then 321 else if k = 124 then 304 else k) (fun k hk => (if_neg (by omega)).trans ((if_neg (by omega)).trans (if_neg (by omega)))) (by simp [ren, renA, renF, ren0]) (by simp) (by simp [ipL, hrm, cfB_rn, bB_rn, fa_rn, hA]) (by simp [keys, ipL]) (by simp [keys, ipL]; rfl) ?_)); try simp [hC, hY, putT, updL, hA, hS, hne, hany])); refine hq _ _ _ _ ?_; clear hq q
              )
            | (refine GO_callL (f := .func 9) (cap := #[]) hC hpr rfl rfl rfl (by simp) rfl rfl (by simp [okT]) (by simp [gev]) (by simp) (by simp [okX, putT, junk, upd]) (by simp [gev, putT, upd]) (by simp [updL, hA, hS, hne]) (by (intro k hk; first | exact hLow k hk | (simp (disch := omega) only [hLow, addB, List.mem_cons, List.not_mem_nil, or_false, upd_other, hpL_cons, hpL_nil, if_neg, updL, List.cons_append, List.nil_append] <;> done))) ?_ ?_
               · intro v ns hV k hk
                 rw [prR_key hV k hk]
                 simp
               rintro v ns (⟨h0, rfl, rfl⟩ | ⟨c, a, hi0, hic, hg, rfl, rfl⟩)
               · exact absurd (List.length_eq_zero_iff.1 h0) hl0
               )
            | (refine GO_callL (f := .func 27) (cap := #[]) hC hcl rfl rfl rfl (by simp) rfl rfl (by simp [okT]) (by simp [gev]) (by simp) (by simp [okX, putT, junk, upd]) (by simp [gev, putT, upd, cfV]) (by simp [updL, hA, hS, hne]) (by (intro k hk; first | exact hLow k hk | (simp (disch := omega) only [hLow, addB, List.mem_cons, List.not_mem_nil, or_false, upd_other, hpL_cons, hpL_nil, if_neg, updL, List.cons_append, List.nil_append] <;> done))) ?_ ?_
               · intro v ns hV k hk
                 have := closeR_key hV k hk
                 simp
                 omega
               rintro v ns ⟨rfl, rfl⟩)
            )
          all_goals (
            repeat' (first | refine gwS ?_ | simp only [wN, wM, Nat.reduceAdd, Nat.reduceMul] | ((first | refine gwR [] ?_ | refine gwD [] ?_); intro Q hQ hP; simp [hC, hY, hA, hS, hne]; (first | refine hQ _ _ _ _ (by kernel_rfl) ?_ | refine hP _ _ (by kernel_rfl) fun _ => ?_); clear hQ hP Q) | refine gwB ?_ | refine gwT ?_ | refine gwK ?_ | refine gwE ?_ | refine gwG ?_ | refine gwL ?_ | simp only [blockG_exit] | (refine gwC ?_ ?_ <;> (intro hb; first | (cases hb; done) | skip)))
            )
          all_goals (refine ⟨.inr rfl, by simp [Tryd.results13], keep_of G0F (by (intro p hp; have hpb := hT.ok.big p hp; first | rfl | (simp (disch := omega) only [addB, upd_other, hpL_cons, hpL_nil, if_neg, updL, List.cons_append, List.nil_append] <;> done))) (by (intro k hk; first | exact hLow k hk | (simp (disch := omega) only [hLow, addB, List.mem_cons, List.not_mem_nil, or_false, upd_other, hpL_cons, hpL_nil, if_neg, updL, List.cons_append, List.nil_append] <;> done)))⟩)
theorem nCheck_fun (bm bs : Blk) (off n cap off2 n2 cap2 : Nat) (fm fs : Nat → Int) (hm : MB bm off n fm) (hSb : SB bs off2 n2 fs) (hcap : n2 ≤ cap2) (g bx tp nr md st : Int) (hs : i64 st) :
    Fun Tryd.prog G0 13 #[cfV (.slice (some ⟨100, off, none⟩) n cap) g bx tp nr md, .agg #[.int .i64 st, .slice (some ⟨108, off2, none⟩) n2 cap2]] (hpL G0 (ncL bm bs)) (keys (ncL bm bs)) (.ret (.int .i64 (nkE (cfOk n fm g bx tp nr md) (rightB st fs n2) nr (prs st fs n2))) []) := nCheck_L _ _ bm bs (LTwo.two hm.fx hSb.fx) off n cap off2 n2 cap2 fm fs hm hSb hcap g bx tp nr md st hs
theorem nCheck0_fun (b : Blk) (hB : b.fx) (off n cap : Nat) (g bx tp nr md st : Int) :
    Fun Tryd.prog G0 13 #[cfV (.slice none 0 0) g bx tp nr md, .agg #[.int .i64 st, .slice (some ⟨100, off, none⟩) n cap]] (hpL G0 [(100, b)]) (keys [(100, b)]) (.ret (.int .i64 2) []) := by
  refine fun_ofL (B := 200) G0F Tryd.func13 rfl Tryd.call13 (oneL_ok hB) ?_ (by simp) (by simp) (by simp) (by simp [Tryd.ntmps13]) (by omega) ?_
  · simp [idsV, idsA, idsF, ids0, keys, cfV]
  intro C hC hC0 hY
  have hr := fun ρ => Blk.fx_rn hB ρ
  unfold cfV
  repeat' (first | refine gwS ?_ | simp only [wN, wM, Nat.reduceAdd, Nat.reduceMul] | ((first | refine gwR [29] ?_ | refine gwD [29] ?_); intro Q hQ hP; simp [hC, hY]; (repeat ((first | (refine heapK_mv (check0_fun b hB g bx tp nr md) G0F (B := 200) (oneL_ok hB) (fun k => k) (fun k hk => rfl) (by simp [ren, renA, renF, ren0, cfV]) (by simp) (by simp [hr]) (by simp [keys]) (by simp [keys]; rfl) ?_)); try simp [hC, hY])); (first | refine hQ _ _ _ _ (by kernel_rfl) ?_ | refine hP _ _ (by kernel_rfl) fun _ => ?_); clear hQ hP Q) | refine gwB ?_ | refine gwT ?_ | refine gwK ?_ | refine gwE ?_ | refine gwG ?_ | refine gwL ?_ | simp only [blockG_exit] | (refine gwC ?_ ?_ <;> (intro hb; first | (cases hb; done) | skip)))
  refine ⟨.inr rfl, by simp [Tryd.results13], keep_of G0F (by simp) (by (intro k hk; first | rfl | (simp (disch := omega) only [addB, List.mem_cons, List.not_mem_nil, or_false, upd_other, hpL_cons, hpL_nil, if_neg, updL] <;> done)))⟩
def twoB : Blk := ⟨#[.int .i64 0, .int .i64 0, .int .i64 0, .int .i64 0, .int .i64 0, .int .i64 0, .int .i64 3, .int .i64 0, .int .i64 4, .int .i64 0, .int .i64 0, .int .i64 0], .ty 42⟩
def twoF : Nat → Int := fun j => [0, 0, 0, 0, 0, 0, 3, 0, 4, 0, 0, 0].getD j 0
theorem two_new (k : Nat) (hk : 100 ≤ k) : Fun Tryd.prog G0 24 #[] (hpL G0 []) [] (.new (.agg #[.int .i64 0, .slice (some ⟨k, 0, none⟩) 2 2]) [(k, twoB)]) := by
  have e0 : rst (hpL G0 []) [] = hpL G0 [] := hpL_rst G0F (by simp)
  have hdom : ∀ j, dom (hpL G0 []) j → j < 100 := fun j hj => by
    unfold dom at hj
    cases hq : hpL G0 [] j with
    | none => exact absurd hq hj
    | some q =>
      rcases hpL_mem hq with h | h
      · simp at h
      · exact (G0F j q h).1
  refine new_of (B := 100000) (fun j => if j = k then 100032 else j) G0F (fun j hj => hpL_low (by simp) hj) Tryd.func24 rfl Tryd.call24 ?_ ?_ ?_ (by simp [Tryd.ntmps24]) (by omega) ?_ (fun j hj => ?_) ?_ ?_ ?_ ?_
  · simp
  · rw [e0]
    intro j q hq
    rcases hpL_mem hq with h | h
    · simp at h
    · exact G0_closed _ _ _ h
  · refine ⟨by simp [idsV, idsA, idsF, ids0, extD, keys], by simp [keys]; omega, fun q b c h1 h2 => ?_⟩
    simp at h1 h2
    rw [h1.2, h2.2]
  · rw [e0]
    intro x hx
    cases hq : hpL G0 [] x with
    | none => rfl
    | some q => have := hdom x (by unfold dom; rw [hq]; simp); omega
  · rw [e0] at hj
    have h := hdom j hj
    rw [if_neg (by omega)]
  · rw [e0]
    intro p hp
    simp at hp
    subst hp
    refine ⟨fun h => ?_, by simp⟩
    have := hdom _ h
    simp at this
  · simp
  · rw [e0]; simp [twoB, idsF, ids0, ids_lit]
  · intro C hC hC0 hY
    rw [e0]
    repeat' (first | refine gwS ?_ | simp only [wN, wM, Nat.reduceAdd, Nat.reduceMul] | ((first | refine gwR [] ?_ | refine gwD [] ?_); intro Q hQ hP; simp [hC, hY]; (first | refine hQ _ _ _ _ (by kernel_rfl) ?_ | refine hP _ _ (by kernel_rfl) fun _ => ?_); clear hQ hP Q) | refine gwB ?_ | refine gwT ?_ | refine gwK ?_ | refine gwE ?_ | refine gwG ?_ | refine gwL ?_ | simp only [blockG_exit] | (refine gwC ?_ ?_ <;> (intro hb; first | (cases hb; done) | skip)))
    refine ⟨.inr trivial, ?_⟩
    simp [Tryd.results24, ren, renA, renF, ren0, twoB, Blk.rn]
    refine ⟨by kernel_rfl, fun j hj => ?_⟩
    have := hdom j (by simpa using hj)
    rw [if_neg (by omega), if_neg (by omega), if_neg (by omega)]
theorem heapK_two {hp : Hp} {nk : Nat} {K : Eff → Prop} (hnk : 100 ≤ nk) (h : K ⟨.agg #[.int .i64 0, .slice (some ⟨nk, 0, none⟩) 2 2], [], [], [(nk, twoB)], none, false⟩) : heapK Tryd.prog G0 24 #[] hp nk K :=
  heapK_of (two_new nk hnk) (by simp) (fun k hk => hpL_low (by simp) hk) (by simp [Res.at, keys]) h
theorem twoSB : SB twoB 0 2 twoF := by
  have e : twoB = ⟨fa 12 .i64 twoF, .ty 42⟩ := by unfold twoB; congr 1
  rw [e]
  refine ⟨rdI_fa _ _ _, fa_fx _ _ _, fun j hj => ?_, by omega⟩
  have : j = 0 ∨ j = 1 ∨ j = 2 ∨ j = 3 ∨ j = 4 ∨ j = 5 ∨ j = 6 ∨ j = 7 ∨ j = 8 ∨ j = 9 ∨ j = 10 ∨ j = 11 := by omega
  rcases this with rfl | rfl | rfl | rfl | rfl | rfl | rfl | rfl | rfl | rfl | rfl | rfl <;> simp [twoF, i64]
def msB : Blk := ⟨#[.int .i64 1, .int .i64 1], .ty 3⟩
def msF : Nat → Int := fun _ => 1
theorem msMB : MB msB 0 2 msF := by
  have e : msB = ⟨fa 2 .i64 msF, .ty 3⟩ := by unfold msB; congr 1
  rw [e]
  exact ⟨rdI_fa _ _ _, fa_fx _ _ _, fun j hj => by simp [msF, i64], by omega⟩
theorem wk_prs : prs 0 twoF 2 = [(0, 1, 25)] := by decide +kernel
theorem wk_ck5 : nkE (cfOk 2 msF 1 9 9 5 0) (rightB 0 twoF 2) 5 (prs 0 twoF 2) = 0 := by decide +kernel
theorem wk_ck6 : nkE (cfOk 2 msF 1 9 9 6 0) (rightB 0 twoF 2) 6 (prs 0 twoF 2) = 130 := by decide +kernel
theorem wk_near : nearL (cfOk 2 msF 1 9 9 6 0) 6 (prs 0 twoF 2) = [(0, 1, 25)] := by decide +kernel
theorem wk_ls : lsAll (prs 0 twoF 2) = (0, 1, 25) := by decide +kernel
theorem wk_way : wyLo 25 = 5 ∧ wyHi 25 = 5 ∧ wyLo 26 = 5 ∧ wyHi 26 = 6 := by decide +kernel
theorem wk_mo : moE 0 twoF 2 1 0 0 = 0 := by decide +kernel
theorem wk_mf : moR 0 twoF 2 1 0 0 6 = 4 ∧ moR 0 twoF 2 1 0 0 7 = 0 ∧ moR 0 twoF 2 1 0 0 8 = 4 := by decide +kernel
theorem moved_at (nb nk : Nat) (hb1 : 100 ≤ nb) (hk1 : 100 ≤ nk) (hbk : nb ≠ nk) (b : Blk) (off n cap : Nat) (f : Nat → Int) (h : SB b off n f) (hcap : n ≤ cap) (st w0 w1 w2 : Int) (hs : i64 st) :
    FunS Tryd.prog G0 14 #[.agg #[.int .i64 st, .slice (some ⟨nb, off, none⟩) n cap], .agg #[.int .i64 w0, .int .i64 w1, .int .i64 w2]] (hpL G0 [(nb, b)]) [nb] (DriftR nk st n (moR st f n w0 w1 w2) (moE st f n w0 w1 w2)) := by
  have hr := fun ρ => Blk.fx_rn h.fx ρ
  refine (moved_fun b off n cap f h hcap st w0 w1 w2 hs).mvL G0F (oneL_ok h.fx) (nn2 nb nk) nn2_low (by simp [ren, renA, renF, ren0, nn2_b]) (by simp [keys, nn2_b]) (driftR_rr nn2_k) (at_low hb1) (by simp [nn2_b, hr, hb1]) (by simp [keys]) (fun v ns hV k hk => ?_) (fun v ns hV k hk l hl _ => by rw [driftR_key hV k hk, driftR_key hV l hl])
  rw [driftR_key hV k hk, nn2_k]
  simp
  exact ⟨hk1, fun e => hbk e.symm⟩
theorem leastV_two : LeastV (prs 0 twoF 2) = .tuple #[.agg #[.int .i64 0, .int .i64 1, .int .i64 25], .bool true] := by
  unfold LeastV
  rw [wk_ls]
  rfl
def wkN : List (Nat × Nat) := [(0, 50), (1, 51), (2, 52), (3, 53), (4, 54), (5, 55), (6, 56), (7, 57), (8, 58), (9, 59), (10, 60), (11, 61), (12, 62), (13, 63), (14, 64), (15, 65), (16, 66), (17, 67), (18, 68), (19, 69), (20, 70), (21, 71), (22, 72), (23, 73), (24, 74), (25, 75), (26, 76), (27, 77), (28, 78), (29, 79), (30, 80), (31, 81), (32, 82), (33, 83), (34, 84), (35, 85), (36, 86), (37, 87), (38, 88), (39, 89), (40, 90), (41, 91), (42, 92), (43, 93), (44, 94), (45, 95), (46, 96), (47, 97), (48, 98), (49, 99), (50, 100), (51, 101), (52, 102), (53, 103), (54, 104), (55, 105), (56, 106), (57, 107), (58, 108), (59, 109), (60, 110), (61, 111), (62, 112), (63, 113), (64, 114), (65, 115), (66, 116), (67, 0)]
def wkX : List (Nat × Nat) := [(11, 720), (17, 768), (18, 776), (63, 1136)]
def wkV (cl cm c : Nat) : Nat → Value
  | 0 => .slice (some ⟨248, 0, none⟩) 1 cl
  | 1 => .pointer (some ⟨248, 0, none⟩)
  | 2 => .agg #[.int .i64 0, .int .i64 1, .int .i64 25]
  | 3 => .agg #[.int .i64 0, .int .i64 1, .int .i64 25]
  | 4 => .bool true
  | 5 => .bool true
  | 6 => .int .i64 0
  | 7 => .bool true
  | 8 => .bool true
  | 9 => .bool true
  | 10 => .agg #[.slice (some ⟨208, 0, none⟩) 2 2, .int .i64 1, .int .i64 9, .int .i64 9, .int .i64 6, .int .i64 0]
  | 11 => .agg #[.int .i64 0, .slice (some ⟨720, 0, none⟩) 2 2]
  | 12 => .int .i64 130
  | 13 => .bool true
  | 14 => .bool true
  | 15 => .bool true
  | 16 => .agg #[.slice (some ⟨208, 0, none⟩) 2 2, .int .i64 1, .int .i64 9, .int .i64 9, .int .i64 6, .int .i64 0]
  | 17 => .agg #[.int .i64 0, .slice (some ⟨768, 0, none⟩) 2 2]
  | 18 => .slice (some ⟨776, 0, none⟩) 1 c
  | 19 => .int .i64 1
  | 20 => .bool true
  | 21 => .bool true
  | 22 => .bool true
  | 23 => .agg #[.int .i64 0, .int .i64 1, .int .i64 25]
  | 24 => .slice (some ⟨248, 0, none⟩) 1 cl
  | 25 => .pointer (some ⟨248, 0, none⟩)
  | 26 => .agg #[.int .i64 0, .int .i64 1, .int .i64 25]
  | 27 => .bool true
  | 28 => .bool true
  | 29 => .bool true
  | 30 => .bool true
  | 31 => .bool true
  | 32 => .bool true
  | 33 => .int .i64 5
  | 34 => .bool true
  | 35 => .bool true
  | 36 => .bool true
  | 37 => .int .i64 5
  | 38 => .bool true
  | 39 => .bool true
  | 40 => .bool true
  | 41 => .int .i64 5
  | 42 => .bool true
  | 43 => .bool true
  | 44 => .bool true
  | 45 => .int .i64 6
  | 46 => .bool true
  | 47 => .bool true
  | 48 => .bool true
  | 49 => .int .i64 0
  | 50 => .bool true
  | 51 => .bool true
  | 52 => .bool true
  | 53 => .pointer (some ⟨536, 1, none⟩)
  | 54 => .slice (some ⟨504, 0, none⟩) 2 cm
  | 55 => .pointer (some ⟨504, 6, none⟩)
  | 56 => .pointer (some ⟨504, 6, none⟩)
  | 57 => .agg #[.int .i64 4, .int .i64 0, .int .i64 4]
  | 58 => .agg #[.int .i64 4, .int .i64 0, .int .i64 4]
  | 59 => .bool true
  | 60 => .bool true
  | 61 => .bool true
  | 62 => .agg #[.slice none 0 0, .int .i64 0, .int .i64 0, .int .i64 0, .int .i64 0, .int .i64 0]
  | 63 => .agg #[.int .i64 0, .slice (some ⟨1136, 0, none⟩) 2 2]
  | 64 => .int .i64 2
  | 65 => .bool true
  | 66 => .bool true
  | 67 => .bool true
  | _ => .bool true
def wkBk (c : Nat) (g : Nat → Int) : Nat → Blk
  | 11 => twoB
  | 17 => twoB
  | 18 => ⟨fa (3 * c) .i64 g, .ty 36⟩
  | 63 => twoB
  | _ => twoB
structure WkF (cl cm Mm : Nat) (gl gm : Nat → Int) (ts0 : Nat → Value) (hp0 : Hp) : Prop where
  e1 : ts0 1 = .pointer (some ⟨224, 0, none⟩)
  e2 : ts0 2 = .slice (some ⟨248, 0, none⟩) 1 cl
  e3 : ts0 3 = .int .i64 0
  e4 : ts0 4 = .pointer (some ⟨352, 0, none⟩)
  e5 : ts0 5 = .bool true
  e6 : ts0 6 = .int .i64 5
  e7 : ts0 7 = .int .i64 5
  e8 : ts0 8 = .int .i64 5
  e9 : ts0 9 = .int .i64 6
  e10 : ts0 10 = .pointer (some ⟨536, 0, none⟩)
  e11 : ts0 11 = .int .i64 0
  b208 : hp0 208 = some msB
  b224 : hp0 224 = some (cfB (.slice (some ⟨208, 0, none⟩) 2 2) 1 9 9 6 0)
  b248 : hp0 248 = some ⟨fa (3 * cl) .i64 gl, .ty 36⟩
  b352 : hp0 352 = some ⟨#[.int .i64 0, .int .i64 1, .int .i64 25], .ty 36⟩
  b504 : hp0 504 = some ⟨fa Mm .i64 gm, .ty 42⟩
  b536 : hp0 536 = some ⟨#[.int .i64 0, .slice (some ⟨504, 0, none⟩) 2 cm], .ty 27⟩
  low : ∀ k, k < 100 → hp0 k = G0 k
theorem wkN1 : (wkN.map Prod.fst).Nodup := by decide +kernel
theorem wkN2 : (wkN.map Prod.snd).Nodup := by decide +kernel
theorem wkX1 : (wkX.map Prod.fst).Nodup := by decide +kernel
theorem wkX2 : (wkX.map Prod.snd).Nodup := by decide +kernel
theorem wkX100 : ∀ k, k < 100 → k ∉ wkX.map Prod.snd := fun k hk => by simp [wkX]; omega
theorem wk_near_at (j0 : i64 0) : FunS Tryd.prog G0 10 #[cfV (.slice (some ⟨208, 0, none⟩) 2 2) 1 9 9 6 0, .agg #[.int .i64 0, .slice (some ⟨768, 0, none⟩) 2 2]] (hpL G0 [(208, msB), (768, twoB)]) [208, 768] (PrR 776 1 (pF [(0, 1, 25)])) := by
  have h := nNear_fun msB twoB 0 2 2 0 2 2 msF twoF msMB twoSB (Nat.le_refl _) 1 9 9 6 0 0 j0
  rw [wk_near] at h
  have hmr := fun ρ => Blk.fx_rn msMB.fx ρ
  have htr := fun ρ => Blk.fx_rn twoSB.fx ρ
  refine h.mvL G0F (ncL_ok msMB.fx twoSB.fx) (fun k => if k = 100 then 208 else if k = 108 then 768 else if k = 1000 then 776 else k) (fun k hk => (if_neg (by omega)).trans ((if_neg (by omega)).trans (if_neg (by omega)))) (by simp [cfV, ren, renA, renF, ren0]) (by simp [ncL, keys]) (prR_rr rfl) ?_ (by simp [ncL, hmr, htr]) (by simp [ncL, keys]) (fun v ns hV k hk => ?_) (fun v ns hV k hk l hl _ => by rw [prR_key hV k hk, prR_key hV l hl])
  · intro k hk
    simp (disch := omega) only [hpL_cons, hpL_nil, if_neg]
  · rw [prR_key hV k hk]
    simp
set_option maxRecDepth 8000 in
set_option maxHeartbeats 16000000 in
theorem wakes13_ret : Ret Tryd.prog G0 8 #[] (.bool true) := by
  refine ret_of G0F Tryd.func8 rfl Tryd.call8 rfl (by simp) (by simp [Tryd.ntmps8]) ?_
  intro C hC hC0 hY
  have j0 : i64 0 := i64_n (by omega)
  have j25 : i64 25 := i64_n (by omega)
  have j26 : i64 26 := i64_n (by omega)
  obtain ⟨y0, y1, y2, y3⟩ := wk_way
  repeat' (first | refine gwS ?_ | simp only [wN, wM, Nat.reduceAdd, Nat.reduceMul] | ((first | refine gwR [] ?_ | refine gwD [] ?_); intro Q hQ hP; simp [hC, hY]; (first | refine hQ _ _ _ _ (by kernel_rfl) ?_ | refine hP _ _ (by kernel_rfl) fun _ => ?_); clear hQ hP Q) | refine gwB ?_ | refine gwT ?_ | refine gwK ?_ | refine gwE ?_ | refine gwG ?_ | refine gwL ?_ | simp only [blockG_exit] | (refine gwC ?_ ?_ <;> (intro hb; first | (cases hb; done) | skip)))
  refine GW_list ?_
  simp only [Array.toList]
  refine GL_walk 1 [24] rfl (by simp) (by kernel_rfl) ?_; intro q hq; simp [hC, hY]; (repeat ((first | (refine heapK_two (by omega) ?_)); try simp [hC, hY])); refine hq _ _ _ _ ?_; clear hq q
  simp only [wT, List.length_cons, List.length_nil, Nat.reduceAdd]
  have hp1 := nPairs_at 240 248 (by omega) (by omega) (by omega) twoB 0 2 2 twoF twoSB (Nat.le_refl _) 0 j0
  rw [wk_prs] at hp1
  refine GL_callL (f := .func 9) (cap := #[]) hC hp1 rfl (by simp) rfl rfl (by simp [okT]) (by simp [gev]) (by simp) (by simp [okX, junk]) (by simp [gev]) (by simp) (by (intro k hk; first | rfl | (simp (disch := omega) only [addB, List.mem_cons, List.not_mem_nil, or_false, upd_other, hpL_cons, hpL_nil, if_neg, updL] <;> done))) ?_ ?_
  · intro v ns hV k hk
    rw [prR_key hV k hk]
    omega
  rintro v ns (⟨h0, _⟩ | ⟨cl, gl, _, hl2, hl3, rfl, rfl⟩)
  · simp at h0
  refine GL_walk 1 [] rfl (by simp) (by kernel_rfl) ?_; intro q hq; simp [hC, hY, putT, updL]; refine hq _ _ _ _ ?_; clear hq q
  simp only [wT, List.length_cons, List.length_nil, Nat.reduceAdd]
  refine GL_nil ?_
  have hck := nCheck_fun msB twoB 0 2 2 0 2 2 msF twoF msMB twoSB (Nat.le_refl _) 1 9 9 5 0 0 j0
  rw [wk_ck5] at hck
  have hls := least_fun twoB 0 2 2 twoF twoSB (Nat.le_refl _) 0 j0
  rw [leastV_two] at hls
  have hmr := fun ρ => Blk.fx_rn msMB.fx ρ
  have htr := fun ρ => Blk.fx_rn twoSB.fx ρ
  repeat' (first | refine gwS ?_ | simp only [wN, wM, Nat.reduceAdd, Nat.reduceMul] | ((first | refine gwR [24, 13, 12] ?_ | refine gwD [24, 13, 12] ?_); intro Q hQ hP; simp [hC, hY, j25, j26, y0, y1, y2, y3]; (repeat ((first | (refine heapK_two (by omega) ?_) | (refine heapK_mv hck G0F (B := 200) (ncL_ok msMB.fx twoSB.fx) (fun k => if k = 100 then 208 else if k = 108 then 272 else k) (fun k hk => (if_neg (by omega)).trans (if_neg (by omega))) (by simp [cfV, ren, renA, renF, ren0]) (by simp) (by simp [ncL, hmr, htr]; simp [msB]) (by simp [keys, ncL]) (by simp [keys, ncL]; rfl) ?_) | (refine heapK_mv hls G0F (B := 200) (oneL_ok twoSB.fx) (fun k => if k = 100 then 312 else k) (fun k hk => if_neg (by omega)) (by simp [ren, renA, renF, ren0]) (by simp) (by simp [htr]) (by simp [keys]) (by simp [keys]; rfl) ?_)); try simp [hC, hY, j25, j26, y0, y1, y2, y3])); (first | refine hQ _ _ _ _ (by kernel_rfl) ?_ | refine hP _ _ (by kernel_rfl) fun _ => ?_); clear hQ hP Q) | refine gwB ?_ | refine gwT ?_ | refine gwK ?_ | refine gwE ?_ | refine gwG ?_ | refine gwL ?_ | simp only [blockG_exit] | (refine gwC ?_ ?_ <;> (intro hb; first | (cases hb; done) | skip)))
  refine GW_list ?_
  simp only [Array.toList]
  refine GL_walk 2 [24] rfl (by simp) (by kernel_rfl) ?_; intro q hq; simp [hC, hY]; (repeat ((first | (refine heapK_two (by omega) ?_)); try simp [hC, hY])); refine hq _ _ _ _ ?_; clear hq q
  simp only [wT, List.length_cons, List.length_nil, Nat.reduceAdd]
  have hmv := moved_at 488 504 (by omega) (by omega) (by omega) twoB 0 2 2 twoF twoSB (Nat.le_refl _) 0 1 0 0 j0
  rw [wk_mo] at hmv
  refine GL_callL (f := .func 14) (cap := #[]) hC hmv rfl (by simp) rfl rfl (by simp [okT]) (by simp [gev]) (by simp) (by simp [okX, junk]) (by simp [gev]) (by simp) (by (intro k hk; first | rfl | (simp (disch := omega) only [addB, List.mem_cons, List.not_mem_nil, or_false, upd_other, hpL_cons, hpL_nil, if_neg, updL] <;> done))) ?_ ?_
  · intro v ns hV k hk
    rw [driftR_key hV k hk]
    omega
  rintro v ns ⟨w, ⟨cm, Mm, gm, m1, m2, m3, rfl, rfl⟩, rfl⟩
  refine GL_walk 6 [] rfl (by simp) (by kernel_rfl) ?_; intro q hq; simp [hC, hY, putT, updL]; refine hq _ _ _ _ ?_; clear hq q
  simp only [wT, List.length_cons, List.length_nil, Nat.reduceAdd]
  refine GL_nil ?_
  repeat' (first | refine gwS ?_ | simp only [wN, wM, Nat.reduceAdd, Nat.reduceMul] | ((first | refine gwR [] ?_ | refine gwD [] ?_); intro Q hQ hP; simp [hC, hY]; (first | refine hQ _ _ _ _ (by kernel_rfl) ?_ | refine hP _ _ (by kernel_rfl) fun _ => ?_); clear hQ hP Q) | refine gwB ?_ | refine gwT ?_ | refine gwK ?_ | refine gwE ?_ | refine gwG ?_ | refine gwL ?_ | simp only [blockG_exit] | (refine gwC ?_ ?_ <;> (intro hb; first | (cases hb; done) | skip)))
  have hck6 := nCheck_fun msB twoB 0 2 2 0 2 2 msF twoF msMB twoSB (Nat.le_refl _) 1 9 9 6 0 0 j0
  rw [wk_ck6] at hck6
  have hck0 := nCheck0_fun twoB twoSB.fx 0 2 2 0 0 0 0 0 0
  have hnr := wk_near_at j0
  have g0 : gl 0 = 0 := (hl3 0 (by simp)).trans rfl
  have g1 : gl 1 = 1 := (hl3 1 (by simp)).trans rfl
  have g2 : gl 2 = 25 := (hl3 2 (by simp)).trans rfl
  have hldl := pr_at (m := 1) (i := 0) (T := .ty 36) (a := gl) (by omega) hl2 rfl
  simp only [Nat.mul_zero, Nat.zero_mul, Nat.zero_add, g0, g1, g2] at hldl
  have q0 : gm 6 = 4 := (m3 6 (by omega)).trans wk_mf.1
  have q1 : gm 7 = 0 := (m3 7 (by omega)).trans wk_mf.2.1
  have q2 : gm 8 = 4 := (m3 8 (by omega)).trans wk_mf.2.2
  have hldv : loadK Tryd.prog 40 ⟨fa Mm .i64 gm, .ty 42⟩ 6 = some (.agg #[.int .i64 4, .int .i64 0, .int .i64 4]) := by
    have := loadK_rd (P := Tryd.prog) (T := 40) (m := 3) (j := 6) (tyAgg_of Tryd.isAgg40) (tySize_of Tryd.sizeOf40) (by omega) (rdI_fa Mm gm (.ty 42)) (by omega)
    rw [fa_3] at this
    simpa [q0, q1, q2] using this
  refine GW_any follows ?_
  simp only [Array.toList, List.append_eq, List.cons_append, List.nil_append, List.length_cons, List.length_nil, Nat.reduceAdd]
  refine GA_gen (WkF cl cm Mm gl gm) ?_ ?_
  · refine ⟨by simp, by simp, by simp, by simp, by simp, by simp, by simp, by simp, by simp, by simp, by simp, by simp [msB], by simp [cfB], by simp, by simp, by simp, by simp, ?_⟩
    · intro k hk
      simp (disch := omega) only [upd_other, hpL_cons, hpL_nil, if_neg]
  intro ts0 hp0 hF
  refine GA_ind (fun listed ts hp => ∃ c g, TI wkN (wkV cl cm c) wkX (wkBk c g) ts0 hp0 listed ts hp) (fun listed ts hp hs hr hI => ?_) (fun fuel listed ts hp i hs hi hdep h hk => ?_) _ _ _ _ (by simp) (by decide +kernel) ?_
  · have hall := ready_nil hs (by kernel_rfl) hr
    have hall : ∀ i, i < 68 → listed[i]? = some true := fun i hi => hall i (by simpa using hi)
    obtain ⟨c, g, hI⟩ := hI
    have h0 : ts 0 = .bool true := hI.tm (67, 0) (by decide) (hall 67 (by omega))
    simp only [thenG_normal]
    refine GW_ret ?_
    refine ⟨.inr rfl, ?_⟩
    simp [Tryd.results8, h0]
  · have hlt : i < 68 := by
      have := (Array.getElem?_eq_some_iff.1 hi).1
      rw [hs] at this
      simpa using this
    obtain ⟨c, g, h⟩ := h
    obtain rfl | rfl | rfl | rfl | rfl | rfl | rfl | rfl | rfl | rfl | rfl | rfl | rfl | rfl | rfl | rfl | rfl | rfl | rfl | rfl | rfl | rfl | rfl | rfl | rfl | rfl | rfl | rfl | rfl | rfl | rfl | rfl | rfl | rfl | rfl | rfl | rfl | rfl | rfl | rfl | rfl | rfl | rfl | rfl | rfl | rfl | rfl | rfl | rfl | rfl | rfl | rfl | rfl | rfl | rfl | rfl | rfl | rfl | rfl | rfl | rfl | rfl | rfl | rfl | rfl | rfl | rfl | rfl : i = 0 ∨ i = 1 ∨ i = 2 ∨ i = 3 ∨ i = 4 ∨ i = 5 ∨ i = 6 ∨ i = 7 ∨ i = 8 ∨ i = 9 ∨ i = 10 ∨ i = 11 ∨ i = 12 ∨ i = 13 ∨ i = 14 ∨ i = 15 ∨ i = 16 ∨ i = 17 ∨ i = 18 ∨ i = 19 ∨ i = 20 ∨ i = 21 ∨ i = 22 ∨ i = 23 ∨ i = 24 ∨ i = 25 ∨ i = 26 ∨ i = 27 ∨ i = 28 ∨ i = 29 ∨ i = 30 ∨ i = 31 ∨ i = 32 ∨ i = 33 ∨ i = 34 ∨ i = 35 ∨ i = 36 ∨ i = 37 ∨ i = 38 ∨ i = 39 ∨ i = 40 ∨ i = 41 ∨ i = 42 ∨ i = 43 ∨ i = 44 ∨ i = 45 ∨ i = 46 ∨ i = 47 ∨ i = 48 ∨ i = 49 ∨ i = 50 ∨ i = 51 ∨ i = 52 ∨ i = 53 ∨ i = 54 ∨ i = 55 ∨ i = 56 ∨ i = 57 ∨ i = 58 ∨ i = 59 ∨ i = 60 ∨ i = 61 ∨ i = 62 ∨ i = 63 ∨ i = 64 ∨ i = 65 ∨ i = 66 ∨ i = 67 := by omega
    · -- 0
      have x2 : ts 2 = .slice (some ⟨248, 0, none⟩) 1 cl := (h.t0 2 (by decide)).trans hF.e2
      refine GO_walk [] rfl (by kernel_rfl) (by first | assumption | simp) ?_; intro q hq; simp [hC, hY, x2]; refine hq _ _ _ _ ?_; clear hq q
      exact hk _ _ ⟨c, g, h.tmp wkN1 wkN2 (i := 0) (t := 50) (by decide) rfl (by decide)⟩
    · -- 1
      have hd0 := hdep _ rfl
      simp [Region.binds] at hd0
      have d0 : listed[0]? = some true := by simp [hd0]
      have f0 : ts 50 = .slice (some ⟨248, 0, none⟩) 1 cl := h.tm (0, 50) (by decide) d0
      refine GO_walk [] rfl (by kernel_rfl) (by first | assumption | simp) ?_; intro q hq; simp [hC, hY, f0]; refine hq _ _ _ _ ?_; clear hq q
      exact hk _ _ ⟨c, g, h.tmp wkN1 wkN2 (i := 1) (t := 51) (by decide) rfl (by decide)⟩
    · -- 2
      have hd0 := hdep _ rfl
      simp [Region.binds] at hd0
      have d1 : listed[1]? = some true := by simp [hd0]
      have f1 : ts 51 = .pointer (some ⟨248, 0, none⟩) := h.tm (1, 51) (by decide) d1
      have y248 : hp 248 = some ⟨fa (3 * cl) .i64 gl, .ty 36⟩ := (h.h0 248 (by decide)).trans hF.b248
      refine GO_walk [] rfl (by kernel_rfl) (by first | assumption | simp) ?_; intro q hq; simp [hC, hY, f1, y248, hldl]; refine hq _ _ _ _ ?_; clear hq q
      exact hk _ _ ⟨c, g, h.tmp wkN1 wkN2 (i := 2) (t := 52) (by decide) rfl (by decide)⟩
    · -- 3
      refine GO_walk [] rfl (by kernel_rfl) (by first | assumption | simp) ?_; intro q hq; simp [hC, hY]; refine hq _ _ _ _ ?_; clear hq q
      exact hk _ _ ⟨c, g, h.tmp wkN1 wkN2 (i := 3) (t := 53) (by decide) rfl (by decide)⟩
    · -- 4
      have hd0 := hdep _ rfl
      simp [Region.binds] at hd0
      have d2 : listed[2]? = some true := by simp [hd0]
      have d3 : listed[3]? = some true := by simp [hd0]
      have f2 : ts 52 = .agg #[.int .i64 0, .int .i64 1, .int .i64 25] := h.tm (2, 52) (by decide) d2
      have f3 : ts 53 = .agg #[.int .i64 0, .int .i64 1, .int .i64 25] := h.tm (3, 53) (by decide) d3
      refine GO_walk [] rfl (by kernel_rfl) (by first | assumption | simp) ?_; intro q hq; simp [hC, hY, f2, f3]; refine hq _ _ _ _ ?_; clear hq q
      exact hk _ _ ⟨c, g, h.tmp wkN1 wkN2 (i := 4) (t := 54) (by decide) rfl (by decide)⟩
    · -- 5
      have hd0 := hdep _ rfl
      simp [Region.binds] at hd0
      have d4 : listed[4]? = some true := by simp [hd0]
      have f4 : ts 54 = .bool true := h.tm (4, 54) (by decide) d4
      refine GO_walk [] rfl (by kernel_rfl) (by first | assumption | simp) ?_; intro q hq; simp [hC, hY, f4]; refine hq _ _ _ _ ?_; clear hq q
      exact hk _ _ ⟨c, g, h.tmp wkN1 wkN2 (i := 5) (t := 55) (by decide) rfl (by decide)⟩
    · -- 6
      have hd0 := hdep _ rfl
      simp [Region.binds] at hd0
      have d5 : listed[5]? = some true := by simp [hd0]
      have f5 : ts 55 = .bool true := h.tm (5, 55) (by decide) d5
      have x3 : ts 3 = .int .i64 0 := (h.t0 3 (by decide)).trans hF.e3
      refine GO_walk [] rfl (by kernel_rfl) (by first | assumption | simp) ?_; intro q hq; simp [hC, hY, f5, x3]; refine hq _ _ _ _ ?_; clear hq q
      exact hk _ _ ⟨c, g, h.tmp wkN1 wkN2 (i := 6) (t := 56) (by decide) rfl (by decide)⟩
    · -- 7
      have hd0 := hdep _ rfl
      simp [Region.binds] at hd0
      have d5 : listed[5]? = some true := by simp [hd0]
      have d6 : listed[6]? = some true := by simp [hd0]
      have f5 : ts 55 = .bool true := h.tm (5, 55) (by decide) d5
      have f6 : ts 56 = .int .i64 0 := h.tm (6, 56) (by decide) d6
      refine GO_walk [] rfl (by kernel_rfl) (by first | assumption | simp) ?_; intro q hq; simp [hC, hY, f5, f6]; refine hq _ _ _ _ ?_; clear hq q
      exact hk _ _ ⟨c, g, h.tmp wkN1 wkN2 (i := 7) (t := 57) (by decide) rfl (by decide)⟩
    · -- 8
      have hd0 := hdep _ rfl
      simp [Region.binds] at hd0
      have d5 : listed[5]? = some true := by simp [hd0]
      have d7 : listed[7]? = some true := by simp [hd0]
      have f5 : ts 55 = .bool true := h.tm (5, 55) (by decide) d5
      have f7 : ts 57 = .bool true := h.tm (7, 57) (by decide) d7
      refine GO_walk [] rfl (by kernel_rfl) (by first | assumption | simp) ?_; intro q hq; simp [hC, hY, f5, f7]; refine hq _ _ _ _ ?_; clear hq q
      exact hk _ _ ⟨c, g, h.tmp wkN1 wkN2 (i := 8) (t := 58) (by decide) rfl (by decide)⟩
    · -- 9
      have hd0 := hdep _ rfl
      simp [Region.binds] at hd0
      have d8 : listed[8]? = some true := by simp [hd0]
      have f8 : ts 58 = .bool true := h.tm (8, 58) (by decide) d8
      refine GO_walk [] rfl (by kernel_rfl) (by first | assumption | simp) ?_; intro q hq; simp [hC, hY, f8]; refine hq _ _ _ _ ?_; clear hq q
      exact hk _ _ ⟨c, g, h.tmp wkN1 wkN2 (i := 9) (t := 59) (by decide) rfl (by decide)⟩
    · -- 10
      have hd0 := hdep _ rfl
      simp [Region.binds] at hd0
      have d9 : listed[9]? = some true := by simp [hd0]
      have f9 : ts 59 = .bool true := h.tm (9, 59) (by decide) d9
      have x1 : ts 1 = .pointer (some ⟨224, 0, none⟩) := (h.t0 1 (by decide)).trans hF.e1
      have y224 : hp 224 = some (cfB (.slice (some ⟨208, 0, none⟩) 2 2) 1 9 9 6 0) := (h.h0 224 (by decide)).trans hF.b224
      refine GO_walk [] rfl (by kernel_rfl) (by first | assumption | simp) ?_; intro q hq; simp [hC, hY, f9, x1, y224, cfB]; refine hq _ _ _ _ ?_; clear hq q
      exact hk _ _ ⟨c, g, h.tmp wkN1 wkN2 (i := 10) (t := 60) (by decide) rfl (by decide)⟩
    · -- 11
      have hd0 := hdep _ rfl
      simp [Region.binds] at hd0
      have d9 : listed[9]? = some true := by simp [hd0]
      have f9 : ts 59 = .bool true := h.tm (9, 59) (by decide) d9
      refine GO_walk [24] rfl (by kernel_rfl) (by first | assumption | simp) ?_; intro q hq; simp [hC, hY, f9]; (repeat ((first | (refine heapK_two (by omega) ?_)); try simp [hC, hY, f9])); refine hq _ _ _ _ ?_; clear hq q
      exact hk _ _ ⟨c, g, h.new wkN1 wkN2 wkX1 wkX2 (i := 11) (t := 61) (k := 720) (by decide) rfl (by decide) rfl⟩
    · -- 12
      have hd0 := hdep _ rfl
      simp [Region.binds] at hd0
      have d9 : listed[9]? = some true := by simp [hd0]
      have d10 : listed[10]? = some true := by simp [hd0]
      have d11 : listed[11]? = some true := by simp [hd0]
      have f9 : ts 59 = .bool true := h.tm (9, 59) (by decide) d9
      have f10 : ts 60 = .agg #[.slice (some ⟨208, 0, none⟩) 2 2, .int .i64 1, .int .i64 9, .int .i64 9, .int .i64 6, .int .i64 0] := h.tm (10, 60) (by decide) d10
      have f11 : ts 61 = .agg #[.int .i64 0, .slice (some ⟨720, 0, none⟩) 2 2] := h.tm (11, 61) (by decide) d11
      have y208 : hp 208 = some msB := (h.h0 208 (by decide)).trans hF.b208
      have z11 : hp 720 = some twoB := h.bx (11, 720) (by decide) d11
      have low : ∀ k, k < 100 → hp k = G0 k := fun k hk => (h.h0 k (wkX100 k hk)).trans (hF.low k hk)
      refine GO_walk [13] rfl (by kernel_rfl) (by first | assumption | simp) ?_; intro q hq; simp [hC, hY, f9, f10, f11, y208, z11]; (repeat ((first | (refine heapK_mv hck6 G0F (B := 200) (ncL_ok msMB.fx twoSB.fx) (fun k => if k = 100 then 208 else if k = 108 then 720 else k) (fun k hk => (if_neg (by omega)).trans (if_neg (by omega))) (by simp [cfV, ren, renA, renF, ren0]) (by simp) (by simp [ncL, hmr, htr, y208, z11]) (by simp [keys, ncL]) (by simp [keys, ncL]; rfl) ?_)); try simp [hC, hY, f9, f10, f11, y208, z11])); refine hq _ _ _ _ ?_; clear hq q
      exact hk _ _ ⟨c, g, h.tmp wkN1 wkN2 (i := 12) (t := 62) (by decide) rfl (by decide)⟩
    · -- 13
      have hd0 := hdep _ rfl
      simp [Region.binds] at hd0
      have d9 : listed[9]? = some true := by simp [hd0]
      have d12 : listed[12]? = some true := by simp [hd0]
      have f9 : ts 59 = .bool true := h.tm (9, 59) (by decide) d9
      have f12 : ts 62 = .int .i64 130 := h.tm (12, 62) (by decide) d12
      refine GO_walk [] rfl (by kernel_rfl) (by first | assumption | simp) ?_; intro q hq; simp [hC, hY, f9, f12]; refine hq _ _ _ _ ?_; clear hq q
      exact hk _ _ ⟨c, g, h.tmp wkN1 wkN2 (i := 13) (t := 63) (by decide) rfl (by decide)⟩
    · -- 14
      have hd0 := hdep _ rfl
      simp [Region.binds] at hd0
      have d9 : listed[9]? = some true := by simp [hd0]
      have d13 : listed[13]? = some true := by simp [hd0]
      have f9 : ts 59 = .bool true := h.tm (9, 59) (by decide) d9
      have f13 : ts 63 = .bool true := h.tm (13, 63) (by decide) d13
      refine GO_walk [] rfl (by kernel_rfl) (by first | assumption | simp) ?_; intro q hq; simp [hC, hY, f9, f13]; refine hq _ _ _ _ ?_; clear hq q
      exact hk _ _ ⟨c, g, h.tmp wkN1 wkN2 (i := 14) (t := 64) (by decide) rfl (by decide)⟩
    · -- 15
      have hd0 := hdep _ rfl
      simp [Region.binds] at hd0
      have d14 : listed[14]? = some true := by simp [hd0]
      have f14 : ts 64 = .bool true := h.tm (14, 64) (by decide) d14
      refine GO_walk [] rfl (by kernel_rfl) (by first | assumption | simp) ?_; intro q hq; simp [hC, hY, f14]; refine hq _ _ _ _ ?_; clear hq q
      exact hk _ _ ⟨c, g, h.tmp wkN1 wkN2 (i := 15) (t := 65) (by decide) rfl (by decide)⟩
    · -- 16
      have hd0 := hdep _ rfl
      simp [Region.binds] at hd0
      have d15 : listed[15]? = some true := by simp [hd0]
      have f15 : ts 65 = .bool true := h.tm (15, 65) (by decide) d15
      have x1 : ts 1 = .pointer (some ⟨224, 0, none⟩) := (h.t0 1 (by decide)).trans hF.e1
      have y224 : hp 224 = some (cfB (.slice (some ⟨208, 0, none⟩) 2 2) 1 9 9 6 0) := (h.h0 224 (by decide)).trans hF.b224
      refine GO_walk [] rfl (by kernel_rfl) (by first | assumption | simp) ?_; intro q hq; simp [hC, hY, f15, x1, y224, cfB]; refine hq _ _ _ _ ?_; clear hq q
      exact hk _ _ ⟨c, g, h.tmp wkN1 wkN2 (i := 16) (t := 66) (by decide) rfl (by decide)⟩
    · -- 17
      have hd0 := hdep _ rfl
      simp [Region.binds] at hd0
      have d15 : listed[15]? = some true := by simp [hd0]
      have f15 : ts 65 = .bool true := h.tm (15, 65) (by decide) d15
      refine GO_walk [24] rfl (by kernel_rfl) (by first | assumption | simp) ?_; intro q hq; simp [hC, hY, f15]; (repeat ((first | (refine heapK_two (by omega) ?_)); try simp [hC, hY, f15])); refine hq _ _ _ _ ?_; clear hq q
      exact hk _ _ ⟨c, g, h.new wkN1 wkN2 wkX1 wkX2 (i := 17) (t := 67) (k := 768) (by decide) rfl (by decide) rfl⟩
    · -- 18
      have hd0 := hdep _ rfl
      simp [Region.binds] at hd0
      have d15 : listed[15]? = some true := by simp [hd0]
      have d16 : listed[16]? = some true := by simp [hd0]
      have d17 : listed[17]? = some true := by simp [hd0]
      have f15 : ts 65 = .bool true := h.tm (15, 65) (by decide) d15
      have f16 : ts 66 = .agg #[.slice (some ⟨208, 0, none⟩) 2 2, .int .i64 1, .int .i64 9, .int .i64 9, .int .i64 6, .int .i64 0] := h.tm (16, 66) (by decide) d16
      have f17 : ts 67 = .agg #[.int .i64 0, .slice (some ⟨768, 0, none⟩) 2 2] := h.tm (17, 67) (by decide) d17
      have y208 : hp 208 = some msB := (h.h0 208 (by decide)).trans hF.b208
      have z17 : hp 768 = some twoB := h.bx (17, 768) (by decide) d17
      have low : ∀ k, k < 100 → hp k = G0 k := fun k hk => (h.h0 k (wkX100 k hk)).trans (hF.low k hk)
      refine GO_callG (f := .func 10) (cap := #[]) hC hnr rfl hi (by simp [wantedG, f15]) (by simp [Tryd.ntmps8]) rfl rfl (by simp [okT]) (by simp [gev]) (by simp) (by simp [okX, junk, f15, f16, f17, y208, z17]) (by simp [gev, cfV, f15, f16, f17, y208, z17]) (by simp [y208, z17]) (fun q hq => (low q hq).symm ▸ (by simp (disch := omega) only [hpL_cons, hpL_nil, if_neg])) ?_ ?_
      · intro v ns hV k hk
        rw [prR_key hV k hk]
        omega
      rintro v ns (⟨h9, _⟩ | ⟨c', g', _, c1, c2, rfl, rfl⟩)
      · simp at h9
      have hc' : ∀ p ∈ wkN, listed[p.1]? = some true → wkV cl cm c p.1 = wkV cl cm c' p.1 := fun p hp hl => by
        have : p.1 ≠ 18 := fun e => by rw [e, hi] at hl; cases hl
        generalize p.1 = i0 at this ⊢
        unfold wkV
        split <;> first | rfl | exact absurd rfl this
      have hb' : ∀ p ∈ wkX, listed[p.1]? = some true → wkBk c g p.1 = wkBk c' g' p.1 := fun p hp hl => by
        have : p.1 ≠ 18 := fun e => by rw [e, hi] at hl; cases hl
        generalize p.1 = i0 at this ⊢
        unfold wkBk
        split <;> first | rfl | exact absurd rfl this
      exact hk _ _ ⟨c', g', (h.chg hc' hb').new wkN1 wkN2 wkX1 wkX2 (i := 18) (t := 68) (k := 776) (by decide) rfl (by decide) rfl⟩
    · -- 19
      have hd0 := hdep _ rfl
      simp [Region.binds] at hd0
      have d15 : listed[15]? = some true := by simp [hd0]
      have d18 : listed[18]? = some true := by simp [hd0]
      have f15 : ts 65 = .bool true := h.tm (15, 65) (by decide) d15
      have f18 : ts 68 = .slice (some ⟨776, 0, none⟩) 1 c := h.tm (18, 68) (by decide) d18
      refine GO_walk [] rfl (by kernel_rfl) (by first | assumption | simp) ?_; intro q hq; simp [hC, hY, f15, f18]; refine hq _ _ _ _ ?_; clear hq q
      exact hk _ _ ⟨c, g, h.tmp wkN1 wkN2 (i := 19) (t := 69) (by decide) rfl (by decide)⟩
    · -- 20
      have hd0 := hdep _ rfl
      simp [Region.binds] at hd0
      have d15 : listed[15]? = some true := by simp [hd0]
      have d19 : listed[19]? = some true := by simp [hd0]
      have f15 : ts 65 = .bool true := h.tm (15, 65) (by decide) d15
      have f19 : ts 69 = .int .i64 1 := h.tm (19, 69) (by decide) d19
      refine GO_walk [] rfl (by kernel_rfl) (by first | assumption | simp) ?_; intro q hq; simp [hC, hY, f15, f19]; refine hq _ _ _ _ ?_; clear hq q
      exact hk _ _ ⟨c, g, h.tmp wkN1 wkN2 (i := 20) (t := 70) (by decide) rfl (by decide)⟩
    · -- 21
      have hd0 := hdep _ rfl
      simp [Region.binds] at hd0
      have d15 : listed[15]? = some true := by simp [hd0]
      have d20 : listed[20]? = some true := by simp [hd0]
      have f15 : ts 65 = .bool true := h.tm (15, 65) (by decide) d15
      have f20 : ts 70 = .bool true := h.tm (20, 70) (by decide) d20
      refine GO_walk [] rfl (by kernel_rfl) (by first | assumption | simp) ?_; intro q hq; simp [hC, hY, f15, f20]; refine hq _ _ _ _ ?_; clear hq q
      exact hk _ _ ⟨c, g, h.tmp wkN1 wkN2 (i := 21) (t := 71) (by decide) rfl (by decide)⟩
    · -- 22
      have hd0 := hdep _ rfl
      simp [Region.binds] at hd0
      have d21 : listed[21]? = some true := by simp [hd0]
      have f21 : ts 71 = .bool true := h.tm (21, 71) (by decide) d21
      refine GO_walk [] rfl (by kernel_rfl) (by first | assumption | simp) ?_; intro q hq; simp [hC, hY, f21]; refine hq _ _ _ _ ?_; clear hq q
      exact hk _ _ ⟨c, g, h.tmp wkN1 wkN2 (i := 22) (t := 72) (by decide) rfl (by decide)⟩
    · -- 23
      have hd0 := hdep _ rfl
      simp [Region.binds] at hd0
      have d22 : listed[22]? = some true := by simp [hd0]
      have f22 : ts 72 = .bool true := h.tm (22, 72) (by decide) d22
      have x4 : ts 4 = .pointer (some ⟨352, 0, none⟩) := (h.t0 4 (by decide)).trans hF.e4
      have y352 : hp 352 = some ⟨#[.int .i64 0, .int .i64 1, .int .i64 25], .ty 36⟩ := (h.h0 352 (by decide)).trans hF.b352
      refine GO_walk [] rfl (by kernel_rfl) (by first | assumption | simp) ?_; intro q hq; simp [hC, hY, f22, x4, y352]; refine hq _ _ _ _ ?_; clear hq q
      exact hk _ _ ⟨c, g, h.tmp wkN1 wkN2 (i := 23) (t := 73) (by decide) rfl (by decide)⟩
    · -- 24
      have hd0 := hdep _ rfl
      simp [Region.binds] at hd0
      have d22 : listed[22]? = some true := by simp [hd0]
      have f22 : ts 72 = .bool true := h.tm (22, 72) (by decide) d22
      have x2 : ts 2 = .slice (some ⟨248, 0, none⟩) 1 cl := (h.t0 2 (by decide)).trans hF.e2
      refine GO_walk [] rfl (by kernel_rfl) (by first | assumption | simp) ?_; intro q hq; simp [hC, hY, f22, x2]; refine hq _ _ _ _ ?_; clear hq q
      exact hk _ _ ⟨c, g, h.tmp wkN1 wkN2 (i := 24) (t := 74) (by decide) rfl (by decide)⟩
    · -- 25
      have hd0 := hdep _ rfl
      simp [Region.binds] at hd0
      have d22 : listed[22]? = some true := by simp [hd0]
      have d24 : listed[24]? = some true := by simp [hd0]
      have f22 : ts 72 = .bool true := h.tm (22, 72) (by decide) d22
      have f24 : ts 74 = .slice (some ⟨248, 0, none⟩) 1 cl := h.tm (24, 74) (by decide) d24
      refine GO_walk [] rfl (by kernel_rfl) (by first | assumption | simp) ?_; intro q hq; simp [hC, hY, f22, f24]; refine hq _ _ _ _ ?_; clear hq q
      exact hk _ _ ⟨c, g, h.tmp wkN1 wkN2 (i := 25) (t := 75) (by decide) rfl (by decide)⟩
    · -- 26
      have hd0 := hdep _ rfl
      simp [Region.binds] at hd0
      have d22 : listed[22]? = some true := by simp [hd0]
      have d25 : listed[25]? = some true := by simp [hd0]
      have f22 : ts 72 = .bool true := h.tm (22, 72) (by decide) d22
      have f25 : ts 75 = .pointer (some ⟨248, 0, none⟩) := h.tm (25, 75) (by decide) d25
      have y248 : hp 248 = some ⟨fa (3 * cl) .i64 gl, .ty 36⟩ := (h.h0 248 (by decide)).trans hF.b248
      refine GO_walk [] rfl (by kernel_rfl) (by first | assumption | simp) ?_; intro q hq; simp [hC, hY, f22, f25, y248, hldl]; refine hq _ _ _ _ ?_; clear hq q
      exact hk _ _ ⟨c, g, h.tmp wkN1 wkN2 (i := 26) (t := 76) (by decide) rfl (by decide)⟩
    · -- 27
      have hd0 := hdep _ rfl
      simp [Region.binds] at hd0
      have d22 : listed[22]? = some true := by simp [hd0]
      have d23 : listed[23]? = some true := by simp [hd0]
      have d26 : listed[26]? = some true := by simp [hd0]
      have f22 : ts 72 = .bool true := h.tm (22, 72) (by decide) d22
      have f23 : ts 73 = .agg #[.int .i64 0, .int .i64 1, .int .i64 25] := h.tm (23, 73) (by decide) d23
      have f26 : ts 76 = .agg #[.int .i64 0, .int .i64 1, .int .i64 25] := h.tm (26, 76) (by decide) d26
      refine GO_walk [] rfl (by kernel_rfl) (by first | assumption | simp) ?_; intro q hq; simp [hC, hY, f22, f23, f26]; refine hq _ _ _ _ ?_; clear hq q
      exact hk _ _ ⟨c, g, h.tmp wkN1 wkN2 (i := 27) (t := 77) (by decide) rfl (by decide)⟩
    · -- 28
      have hd0 := hdep _ rfl
      simp [Region.binds] at hd0
      have d22 : listed[22]? = some true := by simp [hd0]
      have d27 : listed[27]? = some true := by simp [hd0]
      have f22 : ts 72 = .bool true := h.tm (22, 72) (by decide) d22
      have f27 : ts 77 = .bool true := h.tm (27, 77) (by decide) d27
      refine GO_walk [] rfl (by kernel_rfl) (by first | assumption | simp) ?_; intro q hq; simp [hC, hY, f22, f27]; refine hq _ _ _ _ ?_; clear hq q
      exact hk _ _ ⟨c, g, h.tmp wkN1 wkN2 (i := 28) (t := 78) (by decide) rfl (by decide)⟩
    · -- 29
      have hd0 := hdep _ rfl
      simp [Region.binds] at hd0
      have d28 : listed[28]? = some true := by simp [hd0]
      have f28 : ts 78 = .bool true := h.tm (28, 78) (by decide) d28
      refine GO_walk [] rfl (by kernel_rfl) (by first | assumption | simp) ?_; intro q hq; simp [hC, hY, f28]; refine hq _ _ _ _ ?_; clear hq q
      exact hk _ _ ⟨c, g, h.tmp wkN1 wkN2 (i := 29) (t := 79) (by decide) rfl (by decide)⟩
    · -- 30
      have hd0 := hdep _ rfl
      simp [Region.binds] at hd0
      have d29 : listed[29]? = some true := by simp [hd0]
      have f29 : ts 79 = .bool true := h.tm (29, 79) (by decide) d29
      have x5 : ts 5 = .bool true := (h.t0 5 (by decide)).trans hF.e5
      refine GO_walk [] rfl (by kernel_rfl) (by first | assumption | simp) ?_; intro q hq; simp [hC, hY, f29, x5]; refine hq _ _ _ _ ?_; clear hq q
      exact hk _ _ ⟨c, g, h.tmp wkN1 wkN2 (i := 30) (t := 80) (by decide) rfl (by decide)⟩
    · -- 31
      have hd0 := hdep _ rfl
      simp [Region.binds] at hd0
      have d29 : listed[29]? = some true := by simp [hd0]
      have d30 : listed[30]? = some true := by simp [hd0]
      have f29 : ts 79 = .bool true := h.tm (29, 79) (by decide) d29
      have f30 : ts 80 = .bool true := h.tm (30, 80) (by decide) d30
      refine GO_walk [] rfl (by kernel_rfl) (by first | assumption | simp) ?_; intro q hq; simp [hC, hY, f29, f30]; refine hq _ _ _ _ ?_; clear hq q
      exact hk _ _ ⟨c, g, h.tmp wkN1 wkN2 (i := 31) (t := 81) (by decide) rfl (by decide)⟩
    · -- 32
      have hd0 := hdep _ rfl
      simp [Region.binds] at hd0
      have d31 : listed[31]? = some true := by simp [hd0]
      have f31 : ts 81 = .bool true := h.tm (31, 81) (by decide) d31
      refine GO_walk [] rfl (by kernel_rfl) (by first | assumption | simp) ?_; intro q hq; simp [hC, hY, f31]; refine hq _ _ _ _ ?_; clear hq q
      exact hk _ _ ⟨c, g, h.tmp wkN1 wkN2 (i := 32) (t := 82) (by decide) rfl (by decide)⟩
    · -- 33
      have hd0 := hdep _ rfl
      simp [Region.binds] at hd0
      have d32 : listed[32]? = some true := by simp [hd0]
      have f32 : ts 82 = .bool true := h.tm (32, 82) (by decide) d32
      have x6 : ts 6 = .int .i64 5 := (h.t0 6 (by decide)).trans hF.e6
      refine GO_walk [] rfl (by kernel_rfl) (by first | assumption | simp) ?_; intro q hq; simp [hC, hY, f32, x6]; refine hq _ _ _ _ ?_; clear hq q
      exact hk _ _ ⟨c, g, h.tmp wkN1 wkN2 (i := 33) (t := 83) (by decide) rfl (by decide)⟩
    · -- 34
      have hd0 := hdep _ rfl
      simp [Region.binds] at hd0
      have d32 : listed[32]? = some true := by simp [hd0]
      have d33 : listed[33]? = some true := by simp [hd0]
      have f32 : ts 82 = .bool true := h.tm (32, 82) (by decide) d32
      have f33 : ts 83 = .int .i64 5 := h.tm (33, 83) (by decide) d33
      refine GO_walk [] rfl (by kernel_rfl) (by first | assumption | simp) ?_; intro q hq; simp [hC, hY, f32, f33]; refine hq _ _ _ _ ?_; clear hq q
      exact hk _ _ ⟨c, g, h.tmp wkN1 wkN2 (i := 34) (t := 84) (by decide) rfl (by decide)⟩
    · -- 35
      have hd0 := hdep _ rfl
      simp [Region.binds] at hd0
      have d32 : listed[32]? = some true := by simp [hd0]
      have d34 : listed[34]? = some true := by simp [hd0]
      have f32 : ts 82 = .bool true := h.tm (32, 82) (by decide) d32
      have f34 : ts 84 = .bool true := h.tm (34, 84) (by decide) d34
      refine GO_walk [] rfl (by kernel_rfl) (by first | assumption | simp) ?_; intro q hq; simp [hC, hY, f32, f34]; refine hq _ _ _ _ ?_; clear hq q
      exact hk _ _ ⟨c, g, h.tmp wkN1 wkN2 (i := 35) (t := 85) (by decide) rfl (by decide)⟩
    · -- 36
      have hd0 := hdep _ rfl
      simp [Region.binds] at hd0
      have d35 : listed[35]? = some true := by simp [hd0]
      have f35 : ts 85 = .bool true := h.tm (35, 85) (by decide) d35
      refine GO_walk [] rfl (by kernel_rfl) (by first | assumption | simp) ?_; intro q hq; simp [hC, hY, f35]; refine hq _ _ _ _ ?_; clear hq q
      exact hk _ _ ⟨c, g, h.tmp wkN1 wkN2 (i := 36) (t := 86) (by decide) rfl (by decide)⟩
    · -- 37
      have hd0 := hdep _ rfl
      simp [Region.binds] at hd0
      have d36 : listed[36]? = some true := by simp [hd0]
      have f36 : ts 86 = .bool true := h.tm (36, 86) (by decide) d36
      have x7 : ts 7 = .int .i64 5 := (h.t0 7 (by decide)).trans hF.e7
      refine GO_walk [] rfl (by kernel_rfl) (by first | assumption | simp) ?_; intro q hq; simp [hC, hY, f36, x7]; refine hq _ _ _ _ ?_; clear hq q
      exact hk _ _ ⟨c, g, h.tmp wkN1 wkN2 (i := 37) (t := 87) (by decide) rfl (by decide)⟩
    · -- 38
      have hd0 := hdep _ rfl
      simp [Region.binds] at hd0
      have d36 : listed[36]? = some true := by simp [hd0]
      have d37 : listed[37]? = some true := by simp [hd0]
      have f36 : ts 86 = .bool true := h.tm (36, 86) (by decide) d36
      have f37 : ts 87 = .int .i64 5 := h.tm (37, 87) (by decide) d37
      refine GO_walk [] rfl (by kernel_rfl) (by first | assumption | simp) ?_; intro q hq; simp [hC, hY, f36, f37]; refine hq _ _ _ _ ?_; clear hq q
      exact hk _ _ ⟨c, g, h.tmp wkN1 wkN2 (i := 38) (t := 88) (by decide) rfl (by decide)⟩
    · -- 39
      have hd0 := hdep _ rfl
      simp [Region.binds] at hd0
      have d36 : listed[36]? = some true := by simp [hd0]
      have d38 : listed[38]? = some true := by simp [hd0]
      have f36 : ts 86 = .bool true := h.tm (36, 86) (by decide) d36
      have f38 : ts 88 = .bool true := h.tm (38, 88) (by decide) d38
      refine GO_walk [] rfl (by kernel_rfl) (by first | assumption | simp) ?_; intro q hq; simp [hC, hY, f36, f38]; refine hq _ _ _ _ ?_; clear hq q
      exact hk _ _ ⟨c, g, h.tmp wkN1 wkN2 (i := 39) (t := 89) (by decide) rfl (by decide)⟩
    · -- 40
      have hd0 := hdep _ rfl
      simp [Region.binds] at hd0
      have d39 : listed[39]? = some true := by simp [hd0]
      have f39 : ts 89 = .bool true := h.tm (39, 89) (by decide) d39
      refine GO_walk [] rfl (by kernel_rfl) (by first | assumption | simp) ?_; intro q hq; simp [hC, hY, f39]; refine hq _ _ _ _ ?_; clear hq q
      exact hk _ _ ⟨c, g, h.tmp wkN1 wkN2 (i := 40) (t := 90) (by decide) rfl (by decide)⟩
    · -- 41
      have hd0 := hdep _ rfl
      simp [Region.binds] at hd0
      have d40 : listed[40]? = some true := by simp [hd0]
      have f40 : ts 90 = .bool true := h.tm (40, 90) (by decide) d40
      have x8 : ts 8 = .int .i64 5 := (h.t0 8 (by decide)).trans hF.e8
      refine GO_walk [] rfl (by kernel_rfl) (by first | assumption | simp) ?_; intro q hq; simp [hC, hY, f40, x8]; refine hq _ _ _ _ ?_; clear hq q
      exact hk _ _ ⟨c, g, h.tmp wkN1 wkN2 (i := 41) (t := 91) (by decide) rfl (by decide)⟩
    · -- 42
      have hd0 := hdep _ rfl
      simp [Region.binds] at hd0
      have d40 : listed[40]? = some true := by simp [hd0]
      have d41 : listed[41]? = some true := by simp [hd0]
      have f40 : ts 90 = .bool true := h.tm (40, 90) (by decide) d40
      have f41 : ts 91 = .int .i64 5 := h.tm (41, 91) (by decide) d41
      refine GO_walk [] rfl (by kernel_rfl) (by first | assumption | simp) ?_; intro q hq; simp [hC, hY, f40, f41]; refine hq _ _ _ _ ?_; clear hq q
      exact hk _ _ ⟨c, g, h.tmp wkN1 wkN2 (i := 42) (t := 92) (by decide) rfl (by decide)⟩
    · -- 43
      have hd0 := hdep _ rfl
      simp [Region.binds] at hd0
      have d40 : listed[40]? = some true := by simp [hd0]
      have d42 : listed[42]? = some true := by simp [hd0]
      have f40 : ts 90 = .bool true := h.tm (40, 90) (by decide) d40
      have f42 : ts 92 = .bool true := h.tm (42, 92) (by decide) d42
      refine GO_walk [] rfl (by kernel_rfl) (by first | assumption | simp) ?_; intro q hq; simp [hC, hY, f40, f42]; refine hq _ _ _ _ ?_; clear hq q
      exact hk _ _ ⟨c, g, h.tmp wkN1 wkN2 (i := 43) (t := 93) (by decide) rfl (by decide)⟩
    · -- 44
      have hd0 := hdep _ rfl
      simp [Region.binds] at hd0
      have d43 : listed[43]? = some true := by simp [hd0]
      have f43 : ts 93 = .bool true := h.tm (43, 93) (by decide) d43
      refine GO_walk [] rfl (by kernel_rfl) (by first | assumption | simp) ?_; intro q hq; simp [hC, hY, f43]; refine hq _ _ _ _ ?_; clear hq q
      exact hk _ _ ⟨c, g, h.tmp wkN1 wkN2 (i := 44) (t := 94) (by decide) rfl (by decide)⟩
    · -- 45
      have hd0 := hdep _ rfl
      simp [Region.binds] at hd0
      have d44 : listed[44]? = some true := by simp [hd0]
      have f44 : ts 94 = .bool true := h.tm (44, 94) (by decide) d44
      have x9 : ts 9 = .int .i64 6 := (h.t0 9 (by decide)).trans hF.e9
      refine GO_walk [] rfl (by kernel_rfl) (by first | assumption | simp) ?_; intro q hq; simp [hC, hY, f44, x9]; refine hq _ _ _ _ ?_; clear hq q
      exact hk _ _ ⟨c, g, h.tmp wkN1 wkN2 (i := 45) (t := 95) (by decide) rfl (by decide)⟩
    · -- 46
      have hd0 := hdep _ rfl
      simp [Region.binds] at hd0
      have d44 : listed[44]? = some true := by simp [hd0]
      have d45 : listed[45]? = some true := by simp [hd0]
      have f44 : ts 94 = .bool true := h.tm (44, 94) (by decide) d44
      have f45 : ts 95 = .int .i64 6 := h.tm (45, 95) (by decide) d45
      refine GO_walk [] rfl (by kernel_rfl) (by first | assumption | simp) ?_; intro q hq; simp [hC, hY, f44, f45]; refine hq _ _ _ _ ?_; clear hq q
      exact hk _ _ ⟨c, g, h.tmp wkN1 wkN2 (i := 46) (t := 96) (by decide) rfl (by decide)⟩
    · -- 47
      have hd0 := hdep _ rfl
      simp [Region.binds] at hd0
      have d44 : listed[44]? = some true := by simp [hd0]
      have d46 : listed[46]? = some true := by simp [hd0]
      have f44 : ts 94 = .bool true := h.tm (44, 94) (by decide) d44
      have f46 : ts 96 = .bool true := h.tm (46, 96) (by decide) d46
      refine GO_walk [] rfl (by kernel_rfl) (by first | assumption | simp) ?_; intro q hq; simp [hC, hY, f44, f46]; refine hq _ _ _ _ ?_; clear hq q
      exact hk _ _ ⟨c, g, h.tmp wkN1 wkN2 (i := 47) (t := 97) (by decide) rfl (by decide)⟩
    · -- 48
      have hd0 := hdep _ rfl
      simp [Region.binds] at hd0
      have d47 : listed[47]? = some true := by simp [hd0]
      have f47 : ts 97 = .bool true := h.tm (47, 97) (by decide) d47
      refine GO_walk [] rfl (by kernel_rfl) (by first | assumption | simp) ?_; intro q hq; simp [hC, hY, f47]; refine hq _ _ _ _ ?_; clear hq q
      exact hk _ _ ⟨c, g, h.tmp wkN1 wkN2 (i := 48) (t := 98) (by decide) rfl (by decide)⟩
    · -- 49
      have hd0 := hdep _ rfl
      simp [Region.binds] at hd0
      have d48 : listed[48]? = some true := by simp [hd0]
      have f48 : ts 98 = .bool true := h.tm (48, 98) (by decide) d48
      have x11 : ts 11 = .int .i64 0 := (h.t0 11 (by decide)).trans hF.e11
      refine GO_walk [] rfl (by kernel_rfl) (by first | assumption | simp) ?_; intro q hq; simp [hC, hY, f48, x11]; refine hq _ _ _ _ ?_; clear hq q
      exact hk _ _ ⟨c, g, h.tmp wkN1 wkN2 (i := 49) (t := 99) (by decide) rfl (by decide)⟩
    · -- 50
      have hd0 := hdep _ rfl
      simp [Region.binds] at hd0
      have d48 : listed[48]? = some true := by simp [hd0]
      have d49 : listed[49]? = some true := by simp [hd0]
      have f48 : ts 98 = .bool true := h.tm (48, 98) (by decide) d48
      have f49 : ts 99 = .int .i64 0 := h.tm (49, 99) (by decide) d49
      refine GO_walk [] rfl (by kernel_rfl) (by first | assumption | simp) ?_; intro q hq; simp [hC, hY, f48, f49]; refine hq _ _ _ _ ?_; clear hq q
      exact hk _ _ ⟨c, g, h.tmp wkN1 wkN2 (i := 50) (t := 100) (by decide) rfl (by decide)⟩
    · -- 51
      have hd0 := hdep _ rfl
      simp [Region.binds] at hd0
      have d48 : listed[48]? = some true := by simp [hd0]
      have d50 : listed[50]? = some true := by simp [hd0]
      have f48 : ts 98 = .bool true := h.tm (48, 98) (by decide) d48
      have f50 : ts 100 = .bool true := h.tm (50, 100) (by decide) d50
      refine GO_walk [] rfl (by kernel_rfl) (by first | assumption | simp) ?_; intro q hq; simp [hC, hY, f48, f50]; refine hq _ _ _ _ ?_; clear hq q
      exact hk _ _ ⟨c, g, h.tmp wkN1 wkN2 (i := 51) (t := 101) (by decide) rfl (by decide)⟩
    · -- 52
      have hd0 := hdep _ rfl
      simp [Region.binds] at hd0
      have d51 : listed[51]? = some true := by simp [hd0]
      have f51 : ts 101 = .bool true := h.tm (51, 101) (by decide) d51
      refine GO_walk [] rfl (by kernel_rfl) (by first | assumption | simp) ?_; intro q hq; simp [hC, hY, f51]; refine hq _ _ _ _ ?_; clear hq q
      exact hk _ _ ⟨c, g, h.tmp wkN1 wkN2 (i := 52) (t := 102) (by decide) rfl (by decide)⟩
    · -- 53
      have hd0 := hdep _ rfl
      simp [Region.binds] at hd0
      have d52 : listed[52]? = some true := by simp [hd0]
      have f52 : ts 102 = .bool true := h.tm (52, 102) (by decide) d52
      have x10 : ts 10 = .pointer (some ⟨536, 0, none⟩) := (h.t0 10 (by decide)).trans hF.e10
      refine GO_walk [] rfl (by kernel_rfl) (by first | assumption | simp) ?_; intro q hq; simp [hC, hY, f52, x10]; refine hq _ _ _ _ ?_; clear hq q
      exact hk _ _ ⟨c, g, h.tmp wkN1 wkN2 (i := 53) (t := 103) (by decide) rfl (by decide)⟩
    · -- 54
      have hd0 := hdep _ rfl
      simp [Region.binds] at hd0
      have d52 : listed[52]? = some true := by simp [hd0]
      have d53 : listed[53]? = some true := by simp [hd0]
      have f52 : ts 102 = .bool true := h.tm (52, 102) (by decide) d52
      have f53 : ts 103 = .pointer (some ⟨536, 1, none⟩) := h.tm (53, 103) (by decide) d53
      have y536 : hp 536 = some ⟨#[.int .i64 0, .slice (some ⟨504, 0, none⟩) 2 cm], .ty 27⟩ := (h.h0 536 (by decide)).trans hF.b536
      refine GO_walk [] rfl (by kernel_rfl) (by first | assumption | simp) ?_; intro q hq; simp [hC, hY, f52, f53, y536]; refine hq _ _ _ _ ?_; clear hq q
      exact hk _ _ ⟨c, g, h.tmp wkN1 wkN2 (i := 54) (t := 104) (by decide) rfl (by decide)⟩
    · -- 55
      have hd0 := hdep _ rfl
      simp [Region.binds] at hd0
      have d52 : listed[52]? = some true := by simp [hd0]
      have d54 : listed[54]? = some true := by simp [hd0]
      have f52 : ts 102 = .bool true := h.tm (52, 102) (by decide) d52
      have f54 : ts 104 = .slice (some ⟨504, 0, none⟩) 2 cm := h.tm (54, 104) (by decide) d54
      refine GO_walk [] rfl (by kernel_rfl) (by first | assumption | simp) ?_; intro q hq; simp [hC, hY, f52, f54]; refine hq _ _ _ _ ?_; clear hq q
      exact hk _ _ ⟨c, g, h.tmp wkN1 wkN2 (i := 55) (t := 105) (by decide) rfl (by decide)⟩
    · -- 56
      have hd0 := hdep _ rfl
      simp [Region.binds] at hd0
      have d52 : listed[52]? = some true := by simp [hd0]
      have d55 : listed[55]? = some true := by simp [hd0]
      have f52 : ts 102 = .bool true := h.tm (52, 102) (by decide) d52
      have f55 : ts 105 = .pointer (some ⟨504, 6, none⟩) := h.tm (55, 105) (by decide) d55
      refine GO_walk [] rfl (by kernel_rfl) (by first | assumption | simp) ?_; intro q hq; simp [hC, hY, f52, f55]; refine hq _ _ _ _ ?_; clear hq q
      exact hk _ _ ⟨c, g, h.tmp wkN1 wkN2 (i := 56) (t := 106) (by decide) rfl (by decide)⟩
    · -- 57
      have hd0 := hdep _ rfl
      simp [Region.binds] at hd0
      have d52 : listed[52]? = some true := by simp [hd0]
      have d56 : listed[56]? = some true := by simp [hd0]
      have f52 : ts 102 = .bool true := h.tm (52, 102) (by decide) d52
      have f56 : ts 106 = .pointer (some ⟨504, 6, none⟩) := h.tm (56, 106) (by decide) d56
      have y504 : hp 504 = some ⟨fa Mm .i64 gm, .ty 42⟩ := (h.h0 504 (by decide)).trans hF.b504
      refine GO_walk [] rfl (by kernel_rfl) (by first | assumption | simp) ?_; intro q hq; simp [hC, hY, f52, f56, y504, hldv]; refine hq _ _ _ _ ?_; clear hq q
      exact hk _ _ ⟨c, g, h.tmp wkN1 wkN2 (i := 57) (t := 107) (by decide) rfl (by decide)⟩
    · -- 58
      have hd0 := hdep _ rfl
      simp [Region.binds] at hd0
      have d52 : listed[52]? = some true := by simp [hd0]
      have f52 : ts 102 = .bool true := h.tm (52, 102) (by decide) d52
      refine GO_walk [] rfl (by kernel_rfl) (by first | assumption | simp) ?_; intro q hq; simp [hC, hY, f52]; refine hq _ _ _ _ ?_; clear hq q
      exact hk _ _ ⟨c, g, h.tmp wkN1 wkN2 (i := 58) (t := 108) (by decide) rfl (by decide)⟩
    · -- 59
      have hd0 := hdep _ rfl
      simp [Region.binds] at hd0
      have d52 : listed[52]? = some true := by simp [hd0]
      have d57 : listed[57]? = some true := by simp [hd0]
      have d58 : listed[58]? = some true := by simp [hd0]
      have f52 : ts 102 = .bool true := h.tm (52, 102) (by decide) d52
      have f57 : ts 107 = .agg #[.int .i64 4, .int .i64 0, .int .i64 4] := h.tm (57, 107) (by decide) d57
      have f58 : ts 108 = .agg #[.int .i64 4, .int .i64 0, .int .i64 4] := h.tm (58, 108) (by decide) d58
      refine GO_walk [] rfl (by kernel_rfl) (by first | assumption | simp) ?_; intro q hq; simp [hC, hY, f52, f57, f58]; refine hq _ _ _ _ ?_; clear hq q
      exact hk _ _ ⟨c, g, h.tmp wkN1 wkN2 (i := 59) (t := 109) (by decide) rfl (by decide)⟩
    · -- 60
      have hd0 := hdep _ rfl
      simp [Region.binds] at hd0
      have d52 : listed[52]? = some true := by simp [hd0]
      have d59 : listed[59]? = some true := by simp [hd0]
      have f52 : ts 102 = .bool true := h.tm (52, 102) (by decide) d52
      have f59 : ts 109 = .bool true := h.tm (59, 109) (by decide) d59
      refine GO_walk [] rfl (by kernel_rfl) (by first | assumption | simp) ?_; intro q hq; simp [hC, hY, f52, f59]; refine hq _ _ _ _ ?_; clear hq q
      exact hk _ _ ⟨c, g, h.tmp wkN1 wkN2 (i := 60) (t := 110) (by decide) rfl (by decide)⟩
    · -- 61
      have hd0 := hdep _ rfl
      simp [Region.binds] at hd0
      have d60 : listed[60]? = some true := by simp [hd0]
      have f60 : ts 110 = .bool true := h.tm (60, 110) (by decide) d60
      refine GO_walk [] rfl (by kernel_rfl) (by first | assumption | simp) ?_; intro q hq; simp [hC, hY, f60]; refine hq _ _ _ _ ?_; clear hq q
      exact hk _ _ ⟨c, g, h.tmp wkN1 wkN2 (i := 61) (t := 111) (by decide) rfl (by decide)⟩
    · -- 62
      have hd0 := hdep _ rfl
      simp [Region.binds] at hd0
      have d61 : listed[61]? = some true := by simp [hd0]
      have f61 : ts 111 = .bool true := h.tm (61, 111) (by decide) d61
      refine GO_walk [] rfl (by kernel_rfl) (by first | assumption | simp) ?_; intro q hq; simp [hC, hY, f61]; refine hq _ _ _ _ ?_; clear hq q
      exact hk _ _ ⟨c, g, h.tmp wkN1 wkN2 (i := 62) (t := 112) (by decide) rfl (by decide)⟩
    · -- 63
      have hd0 := hdep _ rfl
      simp [Region.binds] at hd0
      have d61 : listed[61]? = some true := by simp [hd0]
      have f61 : ts 111 = .bool true := h.tm (61, 111) (by decide) d61
      refine GO_walk [24] rfl (by kernel_rfl) (by first | assumption | simp) ?_; intro q hq; simp [hC, hY, f61]; (repeat ((first | (refine heapK_two (by omega) ?_)); try simp [hC, hY, f61])); refine hq _ _ _ _ ?_; clear hq q
      exact hk _ _ ⟨c, g, h.new wkN1 wkN2 wkX1 wkX2 (i := 63) (t := 113) (k := 1136) (by decide) rfl (by decide) rfl⟩
    · -- 64
      have hd0 := hdep _ rfl
      simp [Region.binds] at hd0
      have d61 : listed[61]? = some true := by simp [hd0]
      have d62 : listed[62]? = some true := by simp [hd0]
      have d63 : listed[63]? = some true := by simp [hd0]
      have f61 : ts 111 = .bool true := h.tm (61, 111) (by decide) d61
      have f62 : ts 112 = .agg #[.slice none 0 0, .int .i64 0, .int .i64 0, .int .i64 0, .int .i64 0, .int .i64 0] := h.tm (62, 112) (by decide) d62
      have f63 : ts 113 = .agg #[.int .i64 0, .slice (some ⟨1136, 0, none⟩) 2 2] := h.tm (63, 113) (by decide) d63
      have z63 : hp 1136 = some twoB := h.bx (63, 1136) (by decide) d63
      have low : ∀ k, k < 100 → hp k = G0 k := fun k hk => (h.h0 k (wkX100 k hk)).trans (hF.low k hk)
      refine GO_walk [13] rfl (by kernel_rfl) (by first | assumption | simp) ?_; intro q hq; simp [hC, hY, f61, f62, f63, z63]; (repeat ((first | (refine heapK_mv hck0 G0F (B := 200) (oneL_ok twoSB.fx) (fun k => if k = 100 then 1136 else k) (fun k hk => if_neg (by omega)) (by simp [cfV, ren, renA, renF, ren0]) (by simp) (by simp [htr, z63]) (by simp [keys]) (by simp [keys]; rfl) ?_)); try simp [hC, hY, f61, f62, f63, z63])); refine hq _ _ _ _ ?_; clear hq q
      exact hk _ _ ⟨c, g, h.tmp wkN1 wkN2 (i := 64) (t := 114) (by decide) rfl (by decide)⟩
    · -- 65
      have hd0 := hdep _ rfl
      simp [Region.binds] at hd0
      have d61 : listed[61]? = some true := by simp [hd0]
      have d64 : listed[64]? = some true := by simp [hd0]
      have f61 : ts 111 = .bool true := h.tm (61, 111) (by decide) d61
      have f64 : ts 114 = .int .i64 2 := h.tm (64, 114) (by decide) d64
      refine GO_walk [] rfl (by kernel_rfl) (by first | assumption | simp) ?_; intro q hq; simp [hC, hY, f61, f64]; refine hq _ _ _ _ ?_; clear hq q
      exact hk _ _ ⟨c, g, h.tmp wkN1 wkN2 (i := 65) (t := 115) (by decide) rfl (by decide)⟩
    · -- 66
      have hd0 := hdep _ rfl
      simp [Region.binds] at hd0
      have d61 : listed[61]? = some true := by simp [hd0]
      have d65 : listed[65]? = some true := by simp [hd0]
      have f61 : ts 111 = .bool true := h.tm (61, 111) (by decide) d61
      have f65 : ts 115 = .bool true := h.tm (65, 115) (by decide) d65
      refine GO_walk [] rfl (by kernel_rfl) (by first | assumption | simp) ?_; intro q hq; simp [hC, hY, f61, f65]; refine hq _ _ _ _ ?_; clear hq q
      exact hk _ _ ⟨c, g, h.tmp wkN1 wkN2 (i := 66) (t := 116) (by decide) rfl (by decide)⟩
    · -- 67
      have hd0 := hdep _ rfl
      simp [Region.binds] at hd0
      have d66 : listed[66]? = some true := by simp [hd0]
      have f66 : ts 116 = .bool true := h.tm (66, 116) (by decide) d66
      refine GO_walk [] rfl (by kernel_rfl) (by first | assumption | simp) ?_; intro q hq; simp [hC, hY, f66]; refine hq _ _ _ _ ?_; clear hq q
      exact hk _ _ ⟨c, g, h.tmp wkN1 wkN2 (i := 67) (t := 0) (by decide) rfl (by decide)⟩
  · have hno : ∀ j : Nat, (Array.replicate 68 false)[j]? ≠ some true := fun j => by
      rw [Array.getElem?_replicate]
      split <;> simp
    exact ⟨0, fun _ => 0, TI.start hno⟩
@[simp] theorem wakes13 (K : Value → Prop) : callK Tryd.prog G0 8 #[] K ↔ K (.bool true) := callK_iff G0W (by kernel_rfl) wakes13_ret
end Go.Gy
