/-
  Lemmas of this claim, in their order (GyWG, GyWH, GyWI, GyWK, GyLC, GyWL, GyWM, GyWR, GyWO, GyWP, GyWS, GyWQ, GyWT).
  Conditions: those of each theorem.
-/
import Derived.Test.YteoefgffimgcmaaDoorGz05
namespace Go.Gy
set_option linter.unusedSimpArgs false
set_option linter.unusedVariables false
open Go Go.RowKit Go.Proofs
theorem vecR_rr {nk nk' n : Nat} {G : Nat → Int} {ρ : Nat → Nat} (h : ρ nk = nk') : RR ρ (VecR nk n G) = VecR nk' n G := by
  funext v ns
  apply propext
  constructor
  · rintro ⟨v0, ns0, hV, rfl, rfl⟩
    rcases hV with ⟨h1, rfl, rfl⟩ | ⟨c, g, h1, h2, h3, rfl, rfl⟩
    · exact .inl ⟨h1, by simp [ren, renA, renF, ren0], by simp [rnL]⟩
    · exact .inr ⟨c, g, h1, h2, h3, by simp [ren, renA, renF, ren0, h], by simp [rnL, fa_rn, h]⟩
  · rintro (⟨h1, rfl, rfl⟩ | ⟨c, g, h1, h2, h3, rfl, rfl⟩)
    · exact ⟨_, _, .inl ⟨h1, rfl, rfl⟩, by simp [ren, renA, renF, ren0], by simp [rnL]⟩
    · exact ⟨_, _, .inr ⟨c, g, h1, h2, h3, rfl, rfl⟩, by simp [ren, renA, renF, ren0, h], by simp [rnL, fa_rn, h]⟩
theorem vecR_key {nk n : Nat} {G : Nat → Int} {v : Value} {ns : List (Nat × Blk)} (h : VecR nk n G v ns) : ∀ k ∈ keys ns, k = nk := by
  rcases h with ⟨h1, rfl, rfl⟩ | ⟨c, g, h1, h2, h3, rfl, rfl⟩ <;> simp [keys]
theorem stB'_rn {st : Int} {k off n cap : Nat} {ρ : Nat → Nat} : (stB' st k off n cap).rn ρ = stB' st (ρ k) off n cap := by simp [stB', Blk.rn, renF, ren0]
theorem fnB_rn {k l : Nat} {ρ : Nat → Nat} : (fnB k l).rn ρ = fnB (ρ k) (ρ l) := by simp [fnB, Blk.rn, renF, ren0]
theorem seq_at (nk : Nat) (hnk : 200 ≤ nk) (b : Blk) (off n cap : Nat) (f : Nat → Int) (h : SB b off n f) (st p q : Int) (hp : i64 p) (hq : i64 q) :
    FunS Tryd.prog G0 78 #[.slice none 0 0, .func (.func 80) #[] #[.pointer (some ⟨100, 0, none⟩), .pointer (some ⟨108, 0, none⟩)]] (hpL G0 (wyL b st off n cap p q)) (keys (wyL b st off n cap p q)) (VecR nk n (vecsG f p q)) := by
  have hL := wyL_ok h.fx st off n cap p q
  have hr := fun ρ => Blk.fx_rn h.fx ρ
  refine (seq_fun b off n cap f h st p q hp hq).mvL G0F hL (fun k => if k = 1000 then nk else k) (fun k hk => if_neg (by omega)) (by simp [ren, renA, renF, ren0]) (by simp [wyL, keys]) (vecR_rr rfl) hL.low (by simp [wyL, stB'_rn, fnB_rn, jb_rn, hr]) (by simp [wyL, keys]) (fun v ns hV k hk => ?_) (fun v ns hV k hk l hl _ => by rw [vecR_key hV k hk, vecR_key hV l hl])
  rw [vecR_key hV k hk]
  simp [wyL, keys]
  omega
theorem col_fun (b : Blk) (off n cap : Nat) (f : Nat → Int) (h : SB b off n f) (st p q : Int) (hp : i64 p) (hq : i64 q) :
    FunS Tryd.prog G0 45 #[.func (.func 80) #[] #[.pointer (some ⟨100, 0, none⟩), .pointer (some ⟨108, 0, none⟩)]] (hpL G0 (wyL b st off n cap p q)) (keys (wyL b st off n cap p q)) (VecR 1000 n (vecsG f p q)) := by
  have hL := wyL_ok h.fx st off n cap p q
  refine newS_ofL (B := 200) G0F Tryd.func45 rfl Tryd.call45 hL ?_ (vec_fit (by omega)) (by simp [Tryd.ntmps45]) (by omega) ?_
  · simp [idsV, idsA, idsF, ids0, keys, wyL]
  intro C hC hC0 hY
  repeat' (first | refine GW_seq ?_ | simp only [List.length_cons, List.length_nil, Nat.reduceAdd, Nat.reduceMul, wN] | ((first | refine GW_region' [] (by kernel_rfl) ?_ | refine GW_draw' [] follows (by kernel_rfl) (by kernel_rfl) ?_); intro Q hQ hP; simp [hC, hY]; (first | refine hQ _ _ _ _ ?_ | refine hQ _ _ _ _ (by kernel_rfl) ?_ | refine hP _ _ (fun _ => ?_) | refine hP _ _ (by kernel_rfl) (fun _ => ?_)); clear hQ hP Q) | refine GW_block ?_ | refine GW_ret ?_ | refine GW_skip ?_ | refine GW_exit ?_ | refine GW_goto ?_ | refine GW_label ?_ | simp only [blockG_exit] | (refine GW_cond (by simp; rfl) ?_ ?_ <;> (intro hb; first | (exfalso; exact absurd hb (by decide)) | skip)))
  refine GW_list ?_
  simp only [Array.toList]
  refine GL_walk 1 [] rfl (by simp) (by kernel_rfl) ?_; intro q hq; simp [hC, hY]; refine hq _ _ _ _ ?_; clear hq q
  simp only [wT, List.length_cons, List.length_nil, Nat.reduceAdd]
  have hS := seq_at 216 (by omega) b off n cap f h st p q hp hq
  refine GL_callL (f := .func 78) (cap := #[]) hC hS rfl (by simp) rfl rfl (by simp [okT]) (by simp [gev]) (by simp) (by simp [okX, junk]) (by simp [gev]) (by simp) (by intro k hk; rfl) ?_ ?_
  · intro v ns hV k hk
    rw [vecR_key hV k hk]
    omega
  · intro v ns hV
    rcases hV with ⟨rfl, rfl, rfl⟩ | ⟨c, g, hi0, hic, hg, rfl, rfl⟩
    ·
      refine GL_walk 1 [] rfl (by simp) (by kernel_rfl) ?_; intro q hq; simp [hC, hY, putT, updL]; refine hq _ _ _ _ ?_; clear hq q
      simp only [wT, List.length_cons, List.length_nil, Nat.reduceAdd]
      refine GL_nil ?_
      repeat' (first | refine GW_seq ?_ | simp only [List.length_cons, List.length_nil, Nat.reduceAdd, Nat.reduceMul, wN] | ((first | refine GW_region' [] (by kernel_rfl) ?_ | refine GW_draw' [] follows (by kernel_rfl) (by kernel_rfl) ?_); intro Q hQ hP; simp [hC, hY]; (first | refine hQ _ _ _ _ ?_ | refine hQ _ _ _ _ (by kernel_rfl) ?_ | refine hP _ _ (fun _ => ?_) | refine hP _ _ (by kernel_rfl) (fun _ => ?_)); clear hQ hP Q) | refine GW_block ?_ | refine GW_ret ?_ | refine GW_skip ?_ | refine GW_exit ?_ | refine GW_goto ?_ | refine GW_label ?_ | simp only [blockG_exit] | (refine GW_cond (by simp; rfl) ?_ ?_ <;> (intro hb; first | (exfalso; exact absurd hb (by decide)) | skip)))
      refine ⟨.inr trivial, by simp, _, _, fun k => k, .inl ⟨rfl, rfl, rfl⟩, fun _ _ => rfl, by simp, by simp, by simp [Tryd.results45, ren, renA, renF, ren0], by simp⟩
    ·
      refine GL_walk 1 [] rfl (by simp) (by kernel_rfl) ?_; intro q hq; simp [hC, hY, putT, updL]; refine hq _ _ _ _ ?_; clear hq q
      simp only [wT, List.length_cons, List.length_nil, Nat.reduceAdd]
      refine GL_nil ?_
      repeat' (first | refine GW_seq ?_ | simp only [List.length_cons, List.length_nil, Nat.reduceAdd, Nat.reduceMul, wN] | ((first | refine GW_region' [] (by kernel_rfl) ?_ | refine GW_draw' [] follows (by kernel_rfl) (by kernel_rfl) ?_); intro Q hQ hP; simp [hC, hY]; (first | refine hQ _ _ _ _ ?_ | refine hQ _ _ _ _ (by kernel_rfl) ?_ | refine hP _ _ (fun _ => ?_) | refine hP _ _ (by kernel_rfl) (fun _ => ?_)); clear hQ hP Q) | refine GW_block ?_ | refine GW_ret ?_ | refine GW_skip ?_ | refine GW_exit ?_ | refine GW_goto ?_ | refine GW_label ?_ | simp only [blockG_exit] | (refine GW_cond (by simp; rfl) ?_ ?_ <;> (intro hb; first | (exfalso; exact absurd hb (by decide)) | skip)))
      refine ⟨.inr trivial, keep_of G0F (fun pp hpp => ?_) (fun k hk => by rw [upd_other _ _ (by omega)]), _, _, fun k => if k = 1000 then 216 else k, .inr ⟨c, g, hi0, hic, hg, rfl, rfl⟩, fun k hk => if_neg (by omega), by simp, by simp, by simp [Tryd.results45, ren, renA, renF, ren0], by simp [fa_rn]⟩
      have := (hL.big pp hpp).2
      rw [upd_other _ _ (by omega)]
end Go.Gy
namespace Go.Gy
set_option linter.unusedSimpArgs false
set_option linter.unusedVariables false
open Go Go.RowKit Go.Proofs
theorem wayR_rr {nk nk' off n cap : Nat} {st p q : Int} {ρ : Nat → Nat} (h100 : ρ 100 = 100) (h0 : ρ nk = nk') (h1 : ρ (nk + 1) = nk' + 1) (h2 : ρ (nk + 2) = nk' + 2) (h3 : ρ (nk + 3) = nk' + 3) : RR ρ (WayR nk st off n cap p q) = WayR nk' st off n cap p q := by
  funext v ns
  apply propext
  constructor
  · rintro ⟨v0, ns0, ⟨rfl, rfl⟩, rfl, rfl⟩
    exact ⟨by simp [ren, renA, renF, ren0, h0, h3], by simp [rnL, wayNs, stB'_rn, fnB_rn, jb_rn, h100, h0, h1, h2, h3]⟩
  · rintro ⟨rfl, rfl⟩
    exact ⟨_, _, ⟨rfl, rfl⟩, by simp [ren, renA, renF, ren0, h0, h3], by simp [rnL, wayNs, stB'_rn, fnB_rn, jb_rn, h100, h0, h1, h2, h3]⟩
/-- Where a new name stands for a block of a list from 1000 on. -/
def up4 (nk k : Nat) : Nat := if 1000 ≤ k then (if k < 1004 then k - 1000 + nk else k) else k
theorem ways_at (nk : Nat) (hnk : 200 ≤ nk) (b : Blk) (off n cap : Nat) (hb : b.fx) (st p q : Int) :
    FunS Tryd.prog G0 46 #[.agg #[.int .i64 st, .slice (some ⟨100, off, none⟩) n cap], .int .i64 p, .int .i64 q] (hpL G0 [(100, b)]) [100] (WayR nk st off n cap p q) := by
  have e4 : ∀ j, j < 4 → up4 nk (1000 + j) = nk + j := fun j hj => by unfold up4; rw [if_pos (by omega), if_pos (by omega)]; omega
  have e100 : up4 nk 100 = 100 := by simp [up4]
  have hr := fun ρ => Blk.fx_rn hb ρ
  have hk4 : ∀ v ns, WayR 1000 st off n cap p q v ns → ∀ k ∈ keys ns, ∃ j, j < 4 ∧ k = 1000 + j := by
    rintro v ns ⟨rfl, rfl⟩ k hk
    simp [keys, wayNs] at hk
    rcases hk with rfl | rfl | rfl | rfl
    · exact ⟨0, by omega, rfl⟩
    · exact ⟨1, by omega, rfl⟩
    · exact ⟨2, by omega, rfl⟩
    · exact ⟨3, by omega, rfl⟩
  refine (ways_fun b off n cap hb st p q).mvL G0F (oneL_ok hb) (up4 nk) (fun k hk => by unfold up4; rw [if_neg (by omega)]) (by simp [ren, renA, renF, ren0, e100]) (by simp [keys, e100]) (wayR_rr e100 (e4 0 (by omega)) (e4 1 (by omega)) (e4 2 (by omega)) (e4 3 (by omega))) (oneL_ok hb).low (by simp [e100, hr]) (by simp [keys]) (fun v ns hV k hk => ?_) (fun v ns hV k hk l hl e => ?_)
  · obtain ⟨j, hj, rfl⟩ := hk4 v ns hV k hk
    rw [e4 j hj]
    simp
    omega
  · obtain ⟨j, hj, rfl⟩ := hk4 v ns hV k hk
    obtain ⟨i, hi, rfl⟩ := hk4 v ns hV l hl
    rw [e4 j hj, e4 i hi] at e
    omega
theorem wayR_key {nk off n cap : Nat} {st p q : Int} {v : Value} {ns : List (Nat × Blk)} (h : WayR nk st off n cap p q v ns) : ∀ k ∈ keys ns, nk ≤ k ∧ k < nk + 4 := by
  obtain ⟨rfl, rfl⟩ := h
  intro k hk
  simp [keys, wayNs] at hk
  omega
/-- The names of the drifts' blocks at a caller's: nk.. stand there; 100 holds the bodies. -/
def dnk (nk nv k : Nat) : Nat := if k = 100 then nk else if k = 108 then nk + 3 else if k = 116 then 100 else if k = 124 then nk + 1 else if k = 132 then nk + 2 else if k = 1000 then nv else k
theorem dnk_low {nk nv : Nat} (k : Nat) (hk : k < 100) : dnk nk nv k = k := by
  unfold dnk
  rw [if_neg (by omega), if_neg (by omega), if_neg (by omega), if_neg (by omega), if_neg (by omega), if_neg (by omega)]
theorem col_at (nk nv : Nat) (hnk : 200 ≤ nk) (hnv : nk + 4 ≤ nv) (b : Blk) (off n cap : Nat) (f : Nat → Int) (h : SB b off n f) (st p q : Int) (hp : i64 p) (hq : i64 q) :
    FunS Tryd.prog G0 45 #[.func (.func 80) #[] #[.pointer (some ⟨nk, 0, none⟩), .pointer (some ⟨nk + 3, 0, none⟩)]] (hpL G0 ((100, b) :: wayNs nk st off n cap p q)) [nk, nk + 3, 100, nk + 1, nk + 2] (VecR nv n (vecsG f p q)) := by
  have hr := fun ρ => Blk.fx_rn h.fx ρ
  have d0 : dnk nk nv 100 = nk := by simp [dnk]
  have d1 : dnk nk nv 108 = nk + 3 := by simp [dnk]
  have d2 : dnk nk nv 116 = 100 := by simp [dnk]
  have d3 : dnk nk nv 124 = nk + 1 := by simp [dnk]
  have d4 : dnk nk nv 132 = nk + 2 := by simp [dnk]
  have d5 : dnk nk nv 1000 = nv := by simp [dnk]
  have n0 : ¬ nk = 100 := by omega
  refine (col_fun b off n cap f h st p q hp hq).mvL G0F (wyL_ok h.fx st off n cap p q) (dnk nk nv) dnk_low (by simp [ren, renA, renF, ren0, d0, d1]) (by simp [wyL, keys, d0, d1, d2, d3, d4]) (vecR_rr d5) ?_ ?_ ?_ (fun v ns hV k hk => ?_) (fun v ns hV k hk l hl _ => by rw [vecR_key hV k hk, vecR_key hV l hl])
  · intro k hk
    simp (disch := omega) only [wayNs, hpL_cons, hpL_nil, if_neg]
  · simp [wyL, wayNs, d0, d1, d2, d3, d4, stB'_rn, fnB_rn, jb_rn, hr, n0]
    omega
  · simp [wyL, keys, d0, d1, d2, d3, d4]
    omega
  · rw [vecR_key hV k hk, d5]
    simp
    omega
/-- What Ways hands back. -/
def WaysR (nk n : Nat) (G : Nat → Int) (ok : Bool) (v : Value) (ns : List (Nat × Blk)) : Prop := ∃ v0, VecR nk (if ok = true then n else 0) G v0 ns ∧ v = .tuple #[v0, .int .i64 (if ok = true then 0 else 2)]
theorem waysR_fit {D : Nat → Prop} {nk n B : Nat} {G : Nat → Int} {ok : Bool} (hB : B ≤ nk) (v : Value) (ns : List (Nat × Blk)) (h : WaysR nk n G ok v ns) : idsV (extD D ns) v ∧ (∀ p ∈ ns, B ≤ p.1 ∧ p.2.ids (extD D ns)) ∧ (∀ k b c, (k, b) ∈ ns → (k, c) ∈ ns → b = c) := by
  obtain ⟨v0, hV, rfl⟩ := h
  obtain ⟨f1, f2, f3⟩ := vec_fit (D := D) hB v0 ns hV
  refine ⟨?_, f2, f3⟩
  rcases hV with ⟨h1, rfl, rfl⟩ | ⟨c, g, h1, h2, h3, rfl, rfl⟩
  · simp [idsV, idsA, idsF, ids0]
  · simp [idsV, idsA, idsF, ids0, extD, keys]
theorem dWays_fun (b : Blk) (off n cap : Nat) (f : Nat → Int) (h : SB b off n f) (st p q : Int) (hs : i64 st) (hp : i64 p) (hq : i64 q) :
    FunS Tryd.prog G0 19 #[.agg #[.int .i64 st, .slice (some ⟨100, off, none⟩) n cap], .int .i64 p, .int .i64 q] (hpL G0 [(100, b)]) (keys [(100, b)]) (WaysR 1000 n (vecsG f p q) (rightB st f n && partB p q)) := by
  refine newS_ofL (B := 200) G0F Tryd.func19 rfl Tryd.call19 (oneL_ok h.fx) ?_ (waysR_fit (by omega)) (by simp [Tryd.ntmps19]) (by omega) ?_
  · simp [idsV, idsA, idsF, ids0, keys]
  intro C hC hC0 hY
  have hr := fun ρ => Blk.fx_rn h.fx ρ
  cases c0 : rightB st f n with
  | false =>
    repeat' (first | refine GW_seq ?_ | simp only [List.length_cons, List.length_nil, Nat.reduceAdd, Nat.reduceMul, wN] | ((first | refine GW_region' [44] (by kernel_rfl) ?_ | refine GW_draw' [44] follows (by kernel_rfl) (by kernel_rfl) ?_); intro Q hQ hP; simp [hC, hY, hp, c0]; (repeat ((first | (refine heapK_mv (rig_fun b off n cap f h st hs) G0F (B := 200) (oneL_ok h.fx) (fun k => k) (fun k hk => rfl) (by simp [ren, renA, renF, ren0]) (by simp) (by simp [hr]) (by simp [keys]) (by simp [keys]; rfl) ?_)); try simp [hC, hY, hp, c0])); (first | refine hQ _ _ _ _ ?_ | refine hQ _ _ _ _ (by kernel_rfl) ?_ | refine hP _ _ (fun _ => ?_) | refine hP _ _ (by kernel_rfl) (fun _ => ?_)); clear hQ hP Q) | refine GW_block ?_ | refine GW_ret ?_ | refine GW_skip ?_ | refine GW_exit ?_ | refine GW_goto ?_ | refine GW_label ?_ | simp only [blockG_exit] | (refine GW_cond (by simp; rfl) ?_ ?_ <;> (intro hb; first | (exfalso; exact absurd hb (by decide)) | skip)))
    refine ⟨.inr trivial, keep_of G0F (by simp) (by (intro k hk; first | rfl | (simp (disch := omega) only [addB, List.mem_cons, List.not_mem_nil, or_false, upd_other, hpL_cons, hpL_nil, if_neg, updL] <;> done))), _, _, fun k => k, ⟨_, .inl ⟨by simp, rfl, rfl⟩, rfl⟩, fun _ _ => rfl, by simp, by simp, by simp [Tryd.results19, ren, renA, renF, ren0], by simp⟩
  | true =>
    cases c1 : partB p q with
    | false =>
      repeat' (first | refine GW_seq ?_ | simp only [List.length_cons, List.length_nil, Nat.reduceAdd, Nat.reduceMul, wN] | ((first | refine GW_region' [44] (by kernel_rfl) ?_ | refine GW_draw' [44] follows (by kernel_rfl) (by kernel_rfl) ?_); intro Q hQ hP; simp [hC, hY, hp, c0, c1]; (repeat ((first | (refine heapK_mv (rig_fun b off n cap f h st hs) G0F (B := 200) (oneL_ok h.fx) (fun k => k) (fun k hk => rfl) (by simp [ren, renA, renF, ren0]) (by simp) (by simp [hr]) (by simp [keys]) (by simp [keys]; rfl) ?_)); try simp [hC, hY, hp, c0, c1])); (first | refine hQ _ _ _ _ ?_ | refine hQ _ _ _ _ (by kernel_rfl) ?_ | refine hP _ _ (fun _ => ?_) | refine hP _ _ (by kernel_rfl) (fun _ => ?_)); clear hQ hP Q) | refine GW_block ?_ | refine GW_ret ?_ | refine GW_skip ?_ | refine GW_exit ?_ | refine GW_goto ?_ | refine GW_label ?_ | simp only [blockG_exit] | (refine GW_cond (by simp; rfl) ?_ ?_ <;> (intro hb; first | (exfalso; exact absurd hb (by decide)) | skip)))
      refine ⟨.inr trivial, keep_of G0F (by simp) (by (intro k hk; first | rfl | (simp (disch := omega) only [addB, List.mem_cons, List.not_mem_nil, or_false, upd_other, hpL_cons, hpL_nil, if_neg, updL] <;> done))), _, _, fun k => k, ⟨_, .inl ⟨by simp, rfl, rfl⟩, rfl⟩, fun _ _ => rfl, by simp, by simp, by simp [Tryd.results19, ren, renA, renF, ren0], by simp⟩
    | true =>
      repeat' (first | refine GW_seq ?_ | simp only [List.length_cons, List.length_nil, Nat.reduceAdd, Nat.reduceMul, wN] | ((first | refine GW_region' [44] (by kernel_rfl) ?_ | refine GW_draw' [44] follows (by kernel_rfl) (by kernel_rfl) ?_); intro Q hQ hP; simp [hC, hY, hp, c0, c1]; (repeat ((first | (refine heapK_mv (rig_fun b off n cap f h st hs) G0F (B := 200) (oneL_ok h.fx) (fun k => k) (fun k hk => rfl) (by simp [ren, renA, renF, ren0]) (by simp) (by simp [hr]) (by simp [keys]) (by simp [keys]; rfl) ?_)); try simp [hC, hY, hp, c0, c1])); (first | refine hQ _ _ _ _ ?_ | refine hQ _ _ _ _ (by kernel_rfl) ?_ | refine hP _ _ (fun _ => ?_) | refine hP _ _ (by kernel_rfl) (fun _ => ?_)); clear hQ hP Q) | refine GW_block ?_ | refine GW_ret ?_ | refine GW_skip ?_ | refine GW_exit ?_ | refine GW_goto ?_ | refine GW_label ?_ | simp only [blockG_exit] | (refine GW_cond (by simp; rfl) ?_ ?_ <;> (intro hb; first | (exfalso; exact absurd hb (by decide)) | skip)))
      refine GW_list ?_
      simp only [Array.toList]
      refine GL_walk 3 [] rfl (by simp) (by kernel_rfl) ?_; intro q hq; simp [hC, hY]; refine hq _ _ _ _ ?_; clear hq q
      simp only [wT, List.length_cons, List.length_nil, Nat.reduceAdd]
      refine GL_callL (f := .func 46) (cap := #[]) hC (ways_at 320 (by omega) b off n cap h.fx st p q) rfl (by simp) rfl rfl (by simp [okT]) (by simp [gev]) (by simp) (by simp [okX, junk]) (by simp [gev]) (by simp) (by (intro k hk; first | rfl | (simp (disch := omega) only [addB, List.mem_cons, List.not_mem_nil, or_false, upd_other, hpL_cons, hpL_nil, if_neg, updL] <;> done))) (fun v ns hV k hk => by have := wayR_key hV k hk; omega) ?_
      rintro v ns ⟨rfl, rfl⟩
      refine GL_callL (f := .func 45) (cap := #[]) hC (col_at 320 328 (by omega) (by omega) b off n cap f h st p q hp hq) rfl (by simp) rfl rfl (by simp [okT]) (by simp [gev]) (by simp) (by simp [okX, putT, junk]) (by simp [gev, putT]) ?_ ?_ (fun v ns hV k hk => by have := vecR_key hV k hk; omega) ?_
      · simp [wayNs, updL]
      · intro k hk
        simp (disch := omega) only [wayNs, updL, upd_other, hpL_cons, hpL_nil, if_neg]
      intro v ns hV
      rcases hV with ⟨rfl, rfl, rfl⟩ | ⟨c, g, hi0, hic, hg, rfl, rfl⟩
      ·
        refine GL_walk 2 [] rfl (by simp) (by kernel_rfl) ?_; intro q hq; simp [hC, hY, putT, updL, wayNs]; refine hq _ _ _ _ ?_; clear hq q
        simp only [wT, List.length_cons, List.length_nil, Nat.reduceAdd]
        refine GL_nil ?_
        repeat' (first | refine GW_seq ?_ | simp only [List.length_cons, List.length_nil, Nat.reduceAdd, Nat.reduceMul, wN] | ((first | refine GW_region' [] (by kernel_rfl) ?_ | refine GW_draw' [] follows (by kernel_rfl) (by kernel_rfl) ?_); intro Q hQ hP; simp [hC, hY]; (first | refine hQ _ _ _ _ ?_ | refine hQ _ _ _ _ (by kernel_rfl) ?_ | refine hP _ _ (fun _ => ?_) | refine hP _ _ (by kernel_rfl) (fun _ => ?_)); clear hQ hP Q) | refine GW_block ?_ | refine GW_ret ?_ | refine GW_skip ?_ | refine GW_exit ?_ | refine GW_goto ?_ | refine GW_label ?_ | simp only [blockG_exit] | (refine GW_cond (by simp; rfl) ?_ ?_ <;> (intro hb; first | (exfalso; exact absurd hb (by decide)) | skip)))
        refine ⟨.inr trivial, keep_of G0F (by simp) (by (intro k hk; first | rfl | (simp (disch := omega) only [addB, List.mem_cons, List.not_mem_nil, or_false, upd_other, hpL_cons, hpL_nil, if_neg, updL] <;> done))), _, _, fun k => k, ⟨_, .inl ⟨by simp, rfl, rfl⟩, rfl⟩, fun _ _ => rfl, by simp, by simp, by simp [Tryd.results19, ren, renA, renF, ren0], by simp⟩
      ·
        refine GL_walk 2 [] rfl (by simp) (by kernel_rfl) ?_; intro q hq; simp [hC, hY, putT, updL, wayNs]; refine hq _ _ _ _ ?_; clear hq q
        simp only [wT, List.length_cons, List.length_nil, Nat.reduceAdd]
        refine GL_nil ?_
        repeat' (first | refine GW_seq ?_ | simp only [List.length_cons, List.length_nil, Nat.reduceAdd, Nat.reduceMul, wN] | ((first | refine GW_region' [] (by kernel_rfl) ?_ | refine GW_draw' [] follows (by kernel_rfl) (by kernel_rfl) ?_); intro Q hQ hP; simp [hC, hY]; (first | refine hQ _ _ _ _ ?_ | refine hQ _ _ _ _ (by kernel_rfl) ?_ | refine hP _ _ (fun _ => ?_) | refine hP _ _ (by kernel_rfl) (fun _ => ?_)); clear hQ hP Q) | refine GW_block ?_ | refine GW_ret ?_ | refine GW_skip ?_ | refine GW_exit ?_ | refine GW_goto ?_ | refine GW_label ?_ | simp only [blockG_exit] | (refine GW_cond (by simp; rfl) ?_ ?_ <;> (intro hb; first | (exfalso; exact absurd hb (by decide)) | skip)))
        refine ⟨.inr trivial, keep_of G0F (by simp) (by (intro k hk; first | rfl | (simp (disch := omega) only [addB, List.mem_cons, List.not_mem_nil, or_false, upd_other, hpL_cons, hpL_nil, if_neg, updL] <;> done))), _, _, fun k => if k = 1000 then 328 else k, ⟨_, .inr ⟨c, g, by simpa using hi0, by simpa using hic, by simpa using hg, by simp; rfl, rfl⟩, rfl⟩, fun k hk => if_neg (by omega), by simp, by simp, by simp [Tryd.results19, ren, renA, renF, ren0], by simp [fa_rn]⟩
end Go.Gy
namespace Go.Gy
set_option linter.unusedSimpArgs false
set_option linter.unusedVariables false
open Go Go.RowKit Go.Proofs
theorem SB.vec {b : Blk} {off n : Nat} {f : Nat → Int} (h : SB b off n f) {i : Nat} (hi : i < n) {u : Nat} (hu : u + 3 ≤ 6) : loadK Tryd.prog 26 b (off + i * 6 + u) = some (.agg #[.int .i64 (f (6 * i + u)), .int .i64 (f (6 * i + u + 1)), .int .i64 (f (6 * i + u + 2))]) := by
  have := loadK_rd (P := Tryd.prog) (T := 26) (m := 3) (j := 6 * i + u) (tyAgg_of Tryd.isAgg26) (tySize_of Tryd.sizeOf26) (by omega) h.rd (by omega)
  rw [show off + i * 6 + u = off + (6 * i + u) by omega, this, fa_3]
  rfl
def w15St (b : Blk) (st : Int) (off n cap : Nat) (p q : Int) (i : Nat) (sl : Value) (ns : List (Nat × Blk)) : GS :=
  ⟨tsL [(1, .int .i64 p), (2, .int .i64 q), (3, .pointer (some ⟨200, 0, none⟩)), (8, sl), (9, .int .i64 i)], hpL G0 ((200, stB' st 100 off n cap) :: (100, b) :: ns), 300, 0⟩
def w15I (b : Blk) (st : Int) (off n cap : Nat) (p q : Int) (G : Nat → Int) (m : Nat) (s : GS) : Prop := ∃ i sl ns, i + m = n ∧ VecR 208 i G sl ns ∧ s = w15St b st off n cap p q i sl ns
set_option maxRecDepth 8000 in
theorem ways15_fun (b : Blk) (off n cap : Nat) (f : Nat → Int) (h : SB b off n f) (st p q : Int) (hp : i64 p) (hq : i64 q) :
    FunS Tryd.prog G0 20 #[.agg #[.int .i64 st, .slice (some ⟨100, off, none⟩) n cap], .int .i64 p, .int .i64 q] (hpL G0 [(100, b)]) (keys [(100, b)]) (WaysR 1000 n (vecsG f p q) (rightB st f n && partB p q)) := by
  refine newS_ofL (B := 200) G0F Tryd.func20 rfl Tryd.call20 (oneL_ok h.fx) ?_ (waysR_fit (by omega)) (by simp [Tryd.ntmps20]) (by omega) ?_
  · simp [idsV, idsA, idsF, ids0, keys]
  intro C hC hC0 hY
  have hr := fun ρ => Blk.fx_rn h.fx ρ
  have hid := fun D => Blk.fx_ids h.fx D
  have hnn := h.nn
  cases c0 : rightB st f n with
  | false =>
    repeat' (first | refine GW_seq ?_ | simp only [List.length_cons, List.length_nil, Nat.reduceAdd, Nat.reduceMul, wN] | ((first | refine GW_region' [25] (by kernel_rfl) ?_ | refine GW_draw' [25] follows (by kernel_rfl) (by kernel_rfl) ?_); intro Q hQ hP; simp [hC, hY, hp, c0]; (repeat ((first | (refine heapK_mv (rig10_fun b off n cap f h st) G0F (B := 200) (oneL_ok h.fx) (fun k => k) (fun k hk => rfl) (by simp [ren, renA, renF, ren0]) (by simp) (by simp [hr]) (by simp [keys]) (by simp [keys]; rfl) ?_)); try simp [hC, hY, hp, c0])); (first | refine hQ _ _ _ _ ?_ | refine hQ _ _ _ _ (by kernel_rfl) ?_ | refine hP _ _ (fun _ => ?_) | refine hP _ _ (by kernel_rfl) (fun _ => ?_)); clear hQ hP Q) | refine GW_block ?_ | refine GW_ret ?_ | refine GW_skip ?_ | refine GW_exit ?_ | refine GW_goto ?_ | refine GW_label ?_ | simp only [blockG_exit] | (refine GW_cond (by simp; rfl) ?_ ?_ <;> (intro hb; first | (exfalso; exact absurd hb (by decide)) | skip)))
    refine ⟨.inr trivial, keep_of G0F (by simp) (by (intro k hk; first | rfl | (simp (disch := omega) only [addB, List.mem_cons, List.not_mem_nil, or_false, upd_other, hpL_cons, hpL_nil, if_neg, updL] <;> done))), _, _, fun k => k, ⟨_, .inl ⟨by simp, rfl, rfl⟩, rfl⟩, fun _ _ => rfl, by simp, by simp, by simp [Tryd.results20, ren, renA, renF, ren0], by simp⟩
  | true =>
    cases c1 : partB p q with
    | false =>
      repeat' (first | refine GW_seq ?_ | simp only [List.length_cons, List.length_nil, Nat.reduceAdd, Nat.reduceMul, wN] | ((first | refine GW_region' [25] (by kernel_rfl) ?_ | refine GW_draw' [25] follows (by kernel_rfl) (by kernel_rfl) ?_); intro Q hQ hP; simp [hC, hY, hp, c0, c1]; (repeat ((first | (refine heapK_mv (rig10_fun b off n cap f h st) G0F (B := 200) (oneL_ok h.fx) (fun k => k) (fun k hk => rfl) (by simp [ren, renA, renF, ren0]) (by simp) (by simp [hr]) (by simp [keys]) (by simp [keys]; rfl) ?_)); try simp [hC, hY, hp, c0, c1])); (first | refine hQ _ _ _ _ ?_ | refine hQ _ _ _ _ (by kernel_rfl) ?_ | refine hP _ _ (fun _ => ?_) | refine hP _ _ (by kernel_rfl) (fun _ => ?_)); clear hQ hP Q) | refine GW_block ?_ | refine GW_ret ?_ | refine GW_skip ?_ | refine GW_exit ?_ | refine GW_goto ?_ | refine GW_label ?_ | simp only [blockG_exit] | (refine GW_cond (by simp; rfl) ?_ ?_ <;> (intro hb; first | (exfalso; exact absurd hb (by decide)) | skip)))
      refine ⟨.inr trivial, keep_of G0F (by simp) (by (intro k hk; first | rfl | (simp (disch := omega) only [addB, List.mem_cons, List.not_mem_nil, or_false, upd_other, hpL_cons, hpL_nil, if_neg, updL] <;> done))), _, _, fun k => k, ⟨_, .inl ⟨by simp, rfl, rfl⟩, rfl⟩, fun _ _ => rfl, by simp, by simp, by simp [Tryd.results20, ren, renA, renF, ren0], by simp⟩
    | true =>
      repeat' (first | refine GW_seq ?_ | simp only [List.length_cons, List.length_nil, Nat.reduceAdd, Nat.reduceMul, wN] | ((first | refine GW_region' [25] (by kernel_rfl) ?_ | refine GW_draw' [25] follows (by kernel_rfl) (by kernel_rfl) ?_); intro Q hQ hP; simp [hC, hY, hp, c0, c1]; (repeat ((first | (refine heapK_mv (rig10_fun b off n cap f h st) G0F (B := 200) (oneL_ok h.fx) (fun k => k) (fun k hk => rfl) (by simp [ren, renA, renF, ren0]) (by simp) (by simp [hr]) (by simp [keys]) (by simp [keys]; rfl) ?_)); try simp [hC, hY, hp, c0, c1])); (first | refine hQ _ _ _ _ ?_ | refine hQ _ _ _ _ (by kernel_rfl) ?_ | refine hP _ _ (fun _ => ?_) | refine hP _ _ (by kernel_rfl) (fun _ => ?_)); clear hQ hP Q) | refine GW_block ?_ | refine GW_ret ?_ | refine GW_skip ?_ | refine GW_exit ?_ | refine GW_goto ?_ | refine GW_label ?_ | simp only [blockG_exit] | (refine GW_cond (by simp; rfl) ?_ ?_ <;> (intro hb; first | (exfalso; exact absurd hb (by decide)) | skip)))
      refine GW_loopR (w15I b st off n cap p q (vecsG f p q)) (m0 := n) (s0 := w15St b st off n cap p q 0 (.slice none 0 0) []) ?_ ⟨0, _, _, by omega, .inl ⟨rfl, rfl, rfl⟩, rfl⟩ ?_
      · refine weakL _ 300 hC G0F (m0 := [(100, b)]) hC0 (by omega) ?_ ?_ ?_
        · simp [idsV, idsA, idsF, ids0, dom]
        · simp [ids_lit, idsF, ids0, stB', hid, dom]
        · simp
      rintro m _ ⟨i, sl, ns, him, hV, rfl⟩
      by_cases hm : m = 0
      · obtain rfl : i = n := by omega
        rcases hV with ⟨rfl, rfl, rfl⟩ | ⟨c, g, hi0, hic, hg, rfl, rfl⟩
        · unfold w15St stB'
          repeat' (first | refine GW_seq ?_ | simp only [List.length_cons, List.length_nil, Nat.reduceAdd, Nat.reduceMul, wN] | ((first | refine GW_region' [] (by kernel_rfl) ?_ | refine GW_draw' [] follows (by kernel_rfl) (by kernel_rfl) ?_); intro Q hQ hP; simp [hC, hY]; (first | refine hQ _ _ _ _ ?_ | refine hQ _ _ _ _ (by kernel_rfl) ?_ | refine hP _ _ (fun _ => ?_) | refine hP _ _ (by kernel_rfl) (fun _ => ?_)); clear hQ hP Q) | refine GW_block ?_ | refine GW_ret ?_ | refine GW_skip ?_ | refine GW_exit ?_ | refine GW_goto ?_ | refine GW_label ?_ | simp only [blockG_exit] | (refine GW_cond (by simp; rfl) ?_ ?_ <;> (intro hb; first | (exfalso; exact absurd hb (by decide)) | skip)))
          refine ⟨.inr trivial, keep_of G0F (by simp) (by (intro k hk; first | rfl | (simp (disch := omega) only [addB, List.mem_cons, List.not_mem_nil, or_false, upd_other, hpL_cons, hpL_nil, if_neg, updL] <;> done))), _, _, fun k => k, ⟨_, .inl ⟨by simp, rfl, rfl⟩, rfl⟩, fun _ _ => rfl, by simp, by simp, by simp [Tryd.results20, ren, renA, renF, ren0], by simp⟩
        · unfold w15St stB'
          repeat' (first | refine GW_seq ?_ | simp only [List.length_cons, List.length_nil, Nat.reduceAdd, Nat.reduceMul, wN] | ((first | refine GW_region' [] (by kernel_rfl) ?_ | refine GW_draw' [] follows (by kernel_rfl) (by kernel_rfl) ?_); intro Q hQ hP; simp [hC, hY]; (first | refine hQ _ _ _ _ ?_ | refine hQ _ _ _ _ (by kernel_rfl) ?_ | refine hP _ _ (fun _ => ?_) | refine hP _ _ (by kernel_rfl) (fun _ => ?_)); clear hQ hP Q) | refine GW_block ?_ | refine GW_ret ?_ | refine GW_skip ?_ | refine GW_exit ?_ | refine GW_goto ?_ | refine GW_label ?_ | simp only [blockG_exit] | (refine GW_cond (by simp; rfl) ?_ ?_ <;> (intro hb; first | (exfalso; exact absurd hb (by decide)) | skip)))
          refine ⟨.inr trivial, keep_of G0F (by simp) (by (intro k hk; first | rfl | (simp (disch := omega) only [addB, List.mem_cons, List.not_mem_nil, or_false, upd_other, hpL_cons, hpL_nil, if_neg, updL] <;> done))), _, _, fun k => if k = 1000 then 208 else k, ⟨_, .inr ⟨c, g, by simpa using hi0, by simpa using hic, by simpa using hg, by simp; rfl, rfl⟩, rfl⟩, fun k hk => if_neg (by omega), by simp, by simp, by simp [Tryd.results20, ren, renA, renF, ren0], by simp [fa_rn]⟩
      · have hin : i < n := by omega
        have hi' : (i : Int) < n := by omega
        have hz : (0 : Int) ≤ i := by omega
        have hs : Int.bmod ((i : Int) + 1) 18446744073709551616 = ((i + 1 : Nat) : Int) := by rw [bm (by omega) (by omega)]; rfl
        have hl := h.vec hin (u := 3) (by omega)
        have i3 := h.i hin 3 (by omega)
        have i4 := h.i hin 4 (by omega)
        have i5 := h.i hin 5 (by omega)
        rcases hV with ⟨rfl, rfl, rfl⟩ | ⟨c, g, hi0, hic, hg, rfl, rfl⟩
        · unfold w15St stB'
          repeat' (first | refine GW_seq ?_ | simp only [List.length_cons, List.length_nil, Nat.reduceAdd, Nat.reduceMul, wN] | ((first | refine GW_region' [] (by kernel_rfl) ?_ | refine GW_draw' [] follows (by kernel_rfl) (by kernel_rfl) ?_); intro Q hQ hP; simp [hC, hY, hin, hi', hz, hs, hl, i3, i4, i5, hp, hq]; (first | refine hQ _ _ _ _ ?_ | refine hQ _ _ _ _ (by kernel_rfl) ?_ | refine hP _ _ (fun _ => ?_) | refine hP _ _ (by kernel_rfl) (fun _ => ?_)); clear hQ hP Q) | refine GW_block ?_ | refine GW_ret ?_ | refine GW_skip ?_ | refine GW_exit ?_ | refine GW_goto ?_ | refine GW_label ?_ | simp only [blockG_exit] | (refine GW_cond (by simp; rfl) ?_ ?_ <;> (intro hb; first | (exfalso; exact absurd hb (by decide)) | skip)))
          refine GW_list ?_
          simp only [Array.toList]
          refine GL_walk 3 [] rfl (by simp) (by kernel_rfl) ?_; intro q hq; simp [hC, hY]; refine hq _ _ _ _ ?_; clear hq q
          simp only [wT, List.length_cons, List.length_nil, Nat.reduceAdd]
          refine GL_push (m := 3) (i := 0) (j := 476) (by' := 24) (z := .agg #[.int .i64 0, .int .i64 0, .int .i64 0]) (T2 := .ty 26) (G := vecsG f p q) (ev := fun u => dwV f p q 0 u) rfl (by simp) rfl Tryd.underlying35 (tySize_of Tryd.sizeOf26) (by kernel_rfl) (by kernel_rfl) (by omega) (by simp [Value.cells]) (by simp [Value.cells]) (by omega) (by omega) (.inl ⟨rfl, by simp⟩) (by simp) (by simp [fa_3, dwV, dwE]) (fun u hu => ?_) (by omega) ?_
          · unfold vecsG
            rw [show (3 * 0 + u) / 3 = 0 by omega, show (3 * 0 + u) % 3 = u by omega]
          · rintro k' c' g' hk' hk100 hc' hg'
            obtain rfl : k' = 484 := by
              rcases hk' with hk' | ⟨c, hk'⟩
              · exact hk'
              · simp at hk'
            refine GL_walk 1 [] rfl (by simp) (by kernel_rfl) ?_; intro q hq; simp [hC, hY, putT]; refine hq _ _ _ _ ?_; clear hq q
            simp only [wT, List.length_cons, List.length_nil, Nat.reduceAdd]
            refine GL_nil ?_
            repeat' (first | refine GW_seq ?_ | simp only [List.length_cons, List.length_nil, Nat.reduceAdd, Nat.reduceMul, wN] | ((first | refine GW_region' [] (by kernel_rfl) ?_ | refine GW_draw' [] follows (by kernel_rfl) (by kernel_rfl) ?_); intro Q hQ hP; simp [hC, hY, hs]; (first | refine hQ _ _ _ _ ?_ | refine hQ _ _ _ _ (by kernel_rfl) ?_ | refine hP _ _ (fun _ => ?_) | refine hP _ _ (by kernel_rfl) (fun _ => ?_)); clear hQ hP Q) | refine GW_block ?_ | refine GW_ret ?_ | refine GW_skip ?_ | refine GW_exit ?_ | refine GW_goto ?_ | refine GW_label ?_ | simp only [blockG_exit] | (refine GW_cond (by simp; rfl) ?_ ?_ <;> (intro hb; first | (exfalso; exact absurd hb (by decide)) | skip)))
            refine ⟨fun k => if k = 208 then 484 else k, w15St b st off n cap p q (0 + 1) (.slice (some ⟨208, 0, none⟩) (0 + 1) c') [(208, ⟨fa (3 * c') .i64 g', .ty 26⟩)], n - (0 + 1), ?_, ⟨0 + 1, _, _, by omega, .inr ⟨c', g', by omega, hc', hg', rfl, rfl⟩, rfl⟩, by omega⟩
            refine weakRL (s := GS.mk _ _ _ 0) _ _ 300 hC G0F (m0 := [(100, b)]) hC0 (by omega) ?_ ?_ ?_ ?_ ?_
            · simp [dom, junk, ren, renA, renF, ren0, idsV, idsA, idsF, ids0, hs]
            · have hfi := fun D => Blk.fx_ids (fa_fx (3 * c') g' 26) D
              have hfm := fun ρ => fx_map (fa_fx (3 * c') g' 26) ρ
              have hbr := fun ρ => Blk.fx_rn h.fx ρ
              simp [fa_rn, stB'_rn, hbr, ids_lit, idsF, ids0, dom, hfi, hid]
              simp [stB', ids_lit, idsF, ids0, dom]
            · simp
            · intro k hk; simp; omega
            · simp [dom]
        · unfold w15St stB'
          repeat' (first | refine GW_seq ?_ | simp only [List.length_cons, List.length_nil, Nat.reduceAdd, Nat.reduceMul, wN] | ((first | refine GW_region' [] (by kernel_rfl) ?_ | refine GW_draw' [] follows (by kernel_rfl) (by kernel_rfl) ?_); intro Q hQ hP; simp [hC, hY, hin, hi', hz, hs, hl, i3, i4, i5, hp, hq]; (first | refine hQ _ _ _ _ ?_ | refine hQ _ _ _ _ (by kernel_rfl) ?_ | refine hP _ _ (fun _ => ?_) | refine hP _ _ (by kernel_rfl) (fun _ => ?_)); clear hQ hP Q) | refine GW_block ?_ | refine GW_ret ?_ | refine GW_skip ?_ | refine GW_exit ?_ | refine GW_goto ?_ | refine GW_label ?_ | simp only [blockG_exit] | (refine GW_cond (by simp; rfl) ?_ ?_ <;> (intro hb; first | (exfalso; exact absurd hb (by decide)) | skip)))
          refine GW_list ?_
          simp only [Array.toList]
          refine GL_walk 3 [] rfl (by simp) (by kernel_rfl) ?_; intro q hq; simp [hC, hY]; refine hq _ _ _ _ ?_; clear hq q
          simp only [wT, List.length_cons, List.length_nil, Nat.reduceAdd]
          refine GL_push (m := 3) (i := i) (j := 476) (by' := 24) (z := .agg #[.int .i64 0, .int .i64 0, .int .i64 0]) (T2 := .ty 26) (G := vecsG f p q) (ev := fun u => dwV f p q i u) rfl (by simp) rfl Tryd.underlying35 (tySize_of Tryd.sizeOf26) (by kernel_rfl) (by kernel_rfl) (by omega) (by simp [Value.cells]) (by simp [Value.cells]) (by omega) (by omega) (.inr ⟨208, c, g, by omega, by simp, by simp, hic, hg⟩) (by simp) (by simp [fa_3, dwV, dwE]) (fun u hu => ?_) (by omega) ?_
          · unfold vecsG
            rw [show (3 * i + u) / 3 = i by omega, show (3 * i + u) % 3 = u by omega]
          · rintro k' c' g' hk' hk100 hc' hg'
            have hk' : k' = 484 ∨ k' = 208 := by
              rcases hk' with hk' | ⟨c, hk'⟩
              · exact .inl hk'
              · simp at hk'; exact .inr hk'.1.symm
            rcases hk' with rfl | rfl
            ·
              refine GL_walk 1 [] rfl (by simp) (by kernel_rfl) ?_; intro q hq; simp [hC, hY, putT]; refine hq _ _ _ _ ?_; clear hq q
              simp only [wT, List.length_cons, List.length_nil, Nat.reduceAdd]
              refine GL_nil ?_
              repeat' (first | refine GW_seq ?_ | simp only [List.length_cons, List.length_nil, Nat.reduceAdd, Nat.reduceMul, wN] | ((first | refine GW_region' [] (by kernel_rfl) ?_ | refine GW_draw' [] follows (by kernel_rfl) (by kernel_rfl) ?_); intro Q hQ hP; simp [hC, hY, hs]; (first | refine hQ _ _ _ _ ?_ | refine hQ _ _ _ _ (by kernel_rfl) ?_ | refine hP _ _ (fun _ => ?_) | refine hP _ _ (by kernel_rfl) (fun _ => ?_)); clear hQ hP Q) | refine GW_block ?_ | refine GW_ret ?_ | refine GW_skip ?_ | refine GW_exit ?_ | refine GW_goto ?_ | refine GW_label ?_ | simp only [blockG_exit] | (refine GW_cond (by simp; rfl) ?_ ?_ <;> (intro hb; first | (exfalso; exact absurd hb (by decide)) | skip)))
              refine ⟨fun k => if k = 208 then 484 else k, w15St b st off n cap p q (i + 1) (.slice (some ⟨208, 0, none⟩) (i + 1) c') [(208, ⟨fa (3 * c') .i64 g', .ty 26⟩)], n - (i + 1), ?_, ⟨i + 1, _, _, by omega, .inr ⟨c', g', by omega, hc', hg', rfl, rfl⟩, rfl⟩, by omega⟩
              refine weakRL (s := GS.mk _ _ _ 0) _ _ 300 hC G0F (m0 := [(100, b)]) hC0 (by omega) ?_ ?_ ?_ ?_ ?_
              · simp [dom, junk, ren, renA, renF, ren0, idsV, idsA, idsF, ids0, hs]
              · have hfi := fun D => Blk.fx_ids (fa_fx (3 * c') g' 26) D
                have hfm := fun ρ => fx_map (fa_fx (3 * c') g' 26) ρ
                have hbr := fun ρ => Blk.fx_rn h.fx ρ
                simp [fa_rn, stB'_rn, hbr, ids_lit, idsF, ids0, dom, hfi, hid]
                simp [stB', ids_lit, idsF, ids0, dom]
              · simp
              · intro k hk; simp; omega
              · simp [dom]
            ·
              refine GL_walk 1 [] rfl (by simp) (by kernel_rfl) ?_; intro q hq; simp [hC, hY, putT]; refine hq _ _ _ _ ?_; clear hq q
              simp only [wT, List.length_cons, List.length_nil, Nat.reduceAdd]
              refine GL_nil ?_
              repeat' (first | refine GW_seq ?_ | simp only [List.length_cons, List.length_nil, Nat.reduceAdd, Nat.reduceMul, wN] | ((first | refine GW_region' [] (by kernel_rfl) ?_ | refine GW_draw' [] follows (by kernel_rfl) (by kernel_rfl) ?_); intro Q hQ hP; simp [hC, hY, hs]; (first | refine hQ _ _ _ _ ?_ | refine hQ _ _ _ _ (by kernel_rfl) ?_ | refine hP _ _ (fun _ => ?_) | refine hP _ _ (by kernel_rfl) (fun _ => ?_)); clear hQ hP Q) | refine GW_block ?_ | refine GW_ret ?_ | refine GW_skip ?_ | refine GW_exit ?_ | refine GW_goto ?_ | refine GW_label ?_ | simp only [blockG_exit] | (refine GW_cond (by simp; rfl) ?_ ?_ <;> (intro hb; first | (exfalso; exact absurd hb (by decide)) | skip)))
              refine ⟨fun k => if k = 208 then 208 else k, w15St b st off n cap p q (i + 1) (.slice (some ⟨208, 0, none⟩) (i + 1) c') [(208, ⟨fa (3 * c') .i64 g', .ty 26⟩)], n - (i + 1), ?_, ⟨i + 1, _, _, by omega, .inr ⟨c', g', by omega, hc', hg', rfl, rfl⟩, rfl⟩, by omega⟩
              refine weakRL (s := GS.mk _ _ _ 0) _ _ 300 hC G0F (m0 := [(100, b)]) hC0 (by omega) ?_ ?_ ?_ ?_ ?_
              · simp [dom, junk, ren, renA, renF, ren0, idsV, idsA, idsF, ids0, hs]
              · have hfi := fun D => Blk.fx_ids (fa_fx (3 * c') g' 26) D
                have hfm := fun ρ => fx_map (fa_fx (3 * c') g' 26) ρ
                have hbr := fun ρ => Blk.fx_rn h.fx ρ
                simp [fa_rn, stB'_rn, hbr, ids_lit, idsF, ids0, dom, hfi, hid]
                simp [stB', ids_lit, idsF, ids0, dom]
              · simp
              · intro k hk; simp; omega
              · simp [dom]
end Go.Gy
namespace Go.Gy
open Go Go.RowKit Go.Proofs
/-- Body i, gone on, is within. -/
def okB (f : Nat → Int) (p q : Int) (i : Nat) : Bool := inV 1048576 (f (6 * i) + dwV f p q i 0) (f (6 * i + 1) + dwV f p q i 1) (f (6 * i + 2) + dwV f p q i 2)
def drOk (f : Nat → Int) (p q : Int) (n : Nat) : Bool := (List.range n).all (okB f p q)
def drE (st : Int) (f : Nat → Int) (n : Nat) (p q : Int) : Int := if (rightB st f n && partB p q) = true then (if drOk f p q n = true then 0 else 20) else 2
def mvF (f : Nat → Int) (p q : Int) (j : Nat) : Int := if j % 6 < 3 then f j + dwV f p q (j / 6) (j % 6) else f j
def drF (st : Int) (f : Nat → Int) (n : Nat) (p q : Int) : Nat → Int := if drE st f n p q = 0 then mvF f p q else f
theorem drOk_iff {f : Nat → Int} {p q : Int} {n : Nat} : drOk f p q n = true ↔ ∀ i, i < n → okB f p q i = true := by simp [drOk]
theorem drOk_f {f : Nat → Int} {p q : Int} {n i : Nat} (hi : i < n) (h : okB f p q i = false) : drOk f p q n = false := by
  cases hb : drOk f p q n with
  | false => rfl
  | true => rw [drOk_iff.1 hb i hi] at h; cases h
theorem inV_iff {m x y z : Int} : inV m x y z = true ↔ inW m x ∧ inW m y ∧ inW m z := by unfold inV; exact decide_eq_true_iff
theorem right_n {st : Int} {f : Nat → Int} {n : Nat} (h : rightB st f n = true) : (-1073741824 ≤ st ∧ st ≤ 1073741824) ∧ (1 ≤ n ∧ n ≤ 4) ∧ ∀ i, i < n → inB 1048576 65536 f i = true := by
  unfold rightB stB at h
  simp only [Bool.and_eq_true, decide_eq_true_eq] at h
  exact ⟨h.1.1, h.1.2, allB_iff.1 h.2⟩
theorem right_b {st : Int} {f : Nat → Int} {n : Nat} (h : rightB st f n = true) {i : Nat} (hi : i < n) : (inW 1048576 (f (6 * i)) ∧ inW 1048576 (f (6 * i + 1)) ∧ inW 1048576 (f (6 * i + 2))) ∧ (inW 65536 (f (6 * i + 3)) ∧ inW 65536 (f (6 * i + 4)) ∧ inW 65536 (f (6 * i + 5))) := by
  have := (right_n h).2.2 i hi
  unfold inB at this
  rw [Bool.and_eq_true, inV_iff, inV_iff] at this
  exact this
theorem d1E_in {v p q : Int} (hp : partB p q = true) (hv : inW 65536 v) : d1E v p q = 0 := by
  unfold inW at hv
  unfold d1E
  rw [if_pos ⟨hp, by omega, by omega⟩]
theorem d1V_in {v p q : Int} (hp : partB p q = true) (hv : inW 65536 v) : d1V v p q = nearQ (v * p) q := by
  unfold inW at hv
  unfold d1V
  rw [if_pos ⟨hp, by omega, by omega⟩]
theorem right_dwE {st : Int} {f : Nat → Int} {n : Nat} {p q : Int} (h : rightB st f n = true) (hp : partB p q = true) {i : Nat} (hi : i < n) : dwE f p q i = 0 := by
  obtain ⟨_, h3, h4, h5⟩ := right_b h hi
  unfold dwE
  rw [wyE_2 (d1E_in hp h3) (d1E_in hp h4), d1E_in hp h5]
theorem right_dwV {st : Int} {f : Nat → Int} {n : Nat} {p q : Int} (h : rightB st f n = true) (hp : partB p q = true) {i : Nat} (hi : i < n) {u : Nat} (hu : u < 3) : dwV f p q i u = nearQ (f (6 * i + 3 + u) * p) q := by
  obtain ⟨_, h3, h4, h5⟩ := right_b h hi
  have hv : inW 65536 (f (6 * i + 3 + u)) := by
    obtain rfl | rfl | rfl : u = 0 ∨ u = 1 ∨ u = 2 := by omega
    · exact h3
    · exact h4
    · exact h5
  unfold dwV
  rw [right_dwE h hp hi, eaV, if_pos rfl, d1V_in hp hv]
theorem eaE_or (op : Int → Int → Int) (a0 a1 a2 b0 b1 b2 : Int) : eaE op a0 a1 a2 b0 b1 b2 = 0 ∨ eaE op a0 a1 a2 b0 b1 b2 = 20 := by unfold eaE; split <;> simp
/-- What does not fit into a point is not within. -/
theorem ok_over {x0 x1 x2 w0 w1 w2 : Int} (h0 : inW 1048576 x0) (h1 : inW 1048576 x1) (h2 : inW 1048576 x2) (he : eaE addI x0 x1 x2 w0 w1 w2 = 20) : inV 1048576 (x0 + w0) (x1 + w1) (x2 + w2) = false := by
  cases hb : inV 1048576 (x0 + w0) (x1 + w1) (x2 + w2) with
  | false => rfl
  | true =>
    rw [inV_iff] at hb
    unfold eaE at he
    rw [if_pos] at he
    · exact absurd he (by decide)
    · unfold inW at *
      unfold fnI addI
      omega
/-- The row behind i rounds: of what it was, g. -/
def mvG (g f : Nat → Int) (p q : Int) (i j : Nat) : Int := if j < 6 * i ∧ j % 6 < 3 then f j + dwV f p q (j / 6) (j % 6) else g j
theorem mvG_0 (g f : Nat → Int) (p q : Int) : mvG g f p q 0 = g := by
  funext j
  unfold mvG
  rw [if_neg (by omega)]
theorem mvG_at {g f : Nat → Int} {p q : Int} {i j : Nat} (h : 6 * i ≤ j) : mvG g f p q i j = g j := by
  unfold mvG
  rw [if_neg (by omega)]
theorem mvG_end {g f : Nat → Int} {p q : Int} {n j : Nat} (h : j < 6 * n) (hg : ∀ j, j < 6 * n → g j = f j) : mvG g f p q n j = mvF f p q j := by
  unfold mvG mvF
  by_cases c : j % 6 < 3
  · rw [if_pos ⟨h, c⟩, if_pos c]
  · rw [if_neg (by omega), if_neg c]; exact hg j h
theorem mvG_put {g f : Nat → Int} {p q : Int} {i : Nat} {a b c : Int} (ha : a = f (6 * i) + dwV f p q i 0) (hb : b = f (6 * i + 1) + dwV f p q i 1) (hc : c = f (6 * i + 2) + dwV f p q i 2) : put3 (mvG g f p q i) (6 * i) a b c = mvG g f p q (i + 1) := by
  funext j
  unfold put3
  by_cases c0 : j = 6 * i
  · rw [if_pos c0, ha]
    unfold mvG
    rw [if_pos (by omega), c0, show 6 * i / 6 = i by omega, show 6 * i % 6 = 0 by omega]
  · rw [if_neg c0]
    by_cases c1 : j = 6 * i + 1
    · rw [if_pos c1, hb]
      unfold mvG
      rw [if_pos (by omega), c1, show (6 * i + 1) / 6 = i by omega, show (6 * i + 1) % 6 = 1 by omega]
    · rw [if_neg c1]
      by_cases c2 : j = 6 * i + 2
      · rw [if_pos c2, hc]
        unfold mvG
        rw [if_pos (by omega), c2, show (6 * i + 2) / 6 = i by omega, show (6 * i + 2) % 6 = 2 by omega]
      · rw [if_neg c2]
        unfold mvG
        by_cases c3 : j < 6 * i ∧ j % 6 < 3
        · rw [if_pos c3, if_pos (by omega)]
        · rw [if_neg c3, if_neg (by omega)]
/-- What a drift hands back. -/
def DriftR (nk : Nat) (st : Int) (n : Nat) (F : Nat → Int) (E : Int) (v : Value) (ns : List (Nat × Blk)) : Prop := ∃ v0, OwnS nk st n F v0 ns ∧ v = .tuple #[v0, .int .i64 E]
theorem driftR_fit {b : Blk} {st : Int} {n : Nat} {F : Nat → Int} {E : Int} (v : Value) (ns : List (Nat × Blk)) (h : DriftR 1000 st n F E v ns) : idsV (extD (fun k => k ∈ keys [(100, b)]) ns) v ∧ (∀ p ∈ ns, 200 ≤ p.1 ∧ p.2.ids (extD (fun k => k ∈ keys [(100, b)]) ns)) ∧ (∀ k b c, (k, b) ∈ ns → (k, c) ∈ ns → b = c) := by
  obtain ⟨v0, hV, rfl⟩ := h
  obtain ⟨f1, f2, f3⟩ := owns_fit (b := b) v0 ns hV
  refine ⟨?_, f2, f3⟩
  obtain ⟨c, M, g, h1, h2, h3, rfl, rfl⟩ := hV
  simp [idsV, idsA, idsF, ids0, extD, keys]
end Go.Gy
namespace Go.Gy
set_option linter.unusedSimpArgs false
open Go Go.RowKit
section
variable {P : Program} {C : Ctx} {n : Nat} {d : List Deferred} {ro : Option Nat} {s : GS} {K : Exit → GS → Prop}
/-- The names of what is not done yet are free. -/
structure AFree (ops : Array Oper) (base : Nat) (listed : Array Bool) (hp : Hp) : Prop where
  at' : ∀ i, listed[i]? = some false → ∀ x, base + 8 * i ≤ x → x < base + 8 * i + 8 → hp x = none
  up : ∀ x, base + 8 * ops.size ≤ x → hp x = none
/-- What is left of a region that draws its order does, where those of 'listed' are done. -/
def GA (P : Program) (C : Ctx) (n : Nat) (d : List Deferred) (ro : Option Nat) (ops : Array Oper) (base : Nat) (fuel : Nat) (listed : Array Bool) (ts : Nat → Value) (hp : Hp) (yc : Nat) (K : Exit → GS → Prop) : Prop :=
  ∀ r a W, RI C n d r ts hp yc a W → AFree ops base listed hp → 100 ≤ base → GFlat C.G → (∀ y, C.Y = some y → Rounds P C.G C.E y) → wpAnyIn (Fw P ro) 0 P .any ops (fun e a' W' => ∃ s' r', K e s' ∧ GI P C n d r' s' a' W') fuel listed a W
/-- One of them comes up. -/
def GO (P : Program) (C : Ctx) (n : Nat) (d : List Deferred) (ro : Option Nat) (ops : Array Oper) (base : Nat) (fuel : Nat) (listed : Array Bool) (i : Nat) (ts : Nat → Value) (hp : Hp) (yc : Nat) (K : Exit → GS → Prop) : Prop :=
  ∀ r a W, RI C n d r ts hp yc a W → AFree ops base listed hp → 100 ≤ base → GFlat C.G → (∀ y, C.Y = some y → Rounds P C.G C.E y) → wpOpIn (Fw P ro) 0 P ops (fun e a' W' => ∃ s' r', K e s' ∧ GI P C n d r' s' a' W') i (wpAnyIn (Fw P ro) 0 P .any ops (fun e a' W' => ∃ s' r', K e s' ∧ GI P C n d r' s' a' W') fuel (listed.setIfInBounds i true)) a W
theorem GW_any {id : Nat} {l : List Oper} (hm : P.follows .mixedOrders = true) (h : GA P C n d ro l.toArray s.B l.length (Array.replicate l.length false) s.ts s.hp s.yc K) : GW P C n d ro (.region id l.toArray true) s K := fun r a W hi =>
  wpIn_region_any hm (by
    have := h r a _ hi.ri.drew ⟨fun i _ x hx _ => hi.free x (by omega), fun x hx => hi.free x (by omega)⟩ hi.low hi.flat hi.rounds
    simpa using this)
theorem GA_nil {ops : Array Oper} {base fuel : Nat} {listed : Array Bool} {ts : Nat → Value} {hp : Hp} {yc : Nat} (hr : Region.ready .any ops listed = []) (h : K .normal ⟨ts, hp, base + 8 * ops.size, yc⟩) : GA P C n d ro ops base fuel listed ts hp yc K := fun r a W hi hf hb hG hR => by
  have hq : ∃ s' r', K .normal s' ∧ GI P C n d r' s' a W := ⟨⟨ts, hp, _, yc⟩, r, h, hi, hf.up, by show 100 ≤ base + 8 * ops.size; omega, hG, hR⟩
  cases fuel with
  | zero => exact ⟨hr, hq⟩
  | succ k => exact ⟨fun _ => hq, fun i hi => by rw [hr] at hi; cases hi⟩
theorem GA_step {ops : Array Oper} {base fuel : Nat} {listed : Array Bool} {ts : Nat → Value} {hp : Hp} {yc : Nat} (l : List Nat) (hr : Region.ready .any ops listed = l) (hl : l.isEmpty = false) (h : ∀ i ∈ l, GO P C n d ro ops base fuel listed i ts hp yc K) : GA P C n d ro ops base (fuel + 1) listed ts hp yc K := fun r a W hi hf hb hG hR => by
  refine ⟨fun h0 => ?_, fun i hm => h i (by rw [← hr]; exact hm) r a W hi hf hb hG hR⟩
  rw [hr] at h0; rw [h0] at hl; cases hl
theorem AFree.after {ops : Array Oper} {base : Nat} {listed : Array Bool} {hp hp' : Hp} (h : AFree ops base listed hp) {i : Nat} (hi : i < ops.size) (e : ∀ x, hp x = none → ¬ (base + 8 * i ≤ x ∧ x < base + 8 * i + 8) → hp' x = none) : AFree ops base (listed.setIfInBounds i true) hp' := by
  refine ⟨fun j hj x h1 h2 => ?_, fun x hx => e x (h.up x hx) (by omega)⟩
  rw [Array.getElem?_setIfInBounds] at hj
  split at hj
  · split at hj <;> cases hj
  · exact e x (h.at' j hj x h1 h2) (by omega)
theorem GO_walk {l0 : List Oper} {o : Oper} {post : List Oper} {base i fuel : Nat} {listed : Array Bool} {ts : Nat → Value} {hp : Hp} {yc : Nat} (pn : List FuncId) (hl : l0.drop i = o :: post) (hdst : (dstOk n [o] && unOk P [o]) = true) (hi : listed[i]? = some false)
    (h : ∀ q : (Nat → Value) → Hp → Tr → Nat → Prop, (∀ ts hp tr yc, GA P C n d ro l0.toArray base fuel (listed.setIfInBounds i true) ts hp yc K → q ts hp tr yc) →
      lexS P C.G ⟨C.Y, pn, false⟩ base ⟨q, fun _ _ => False⟩ ((l0.take i).map (·.dst)).reverse i [o] ts hp [] yc true false) : GO P C n d ro l0.toArray base fuel listed i ts hp yc K := by
  intro r a W hRI hf hb hG hR
  simp only [Bool.and_eq_true] at hdst
  have hok := And.intro (dstOk_spec hdst.1 (List.mem_singleton.2 rfl)) (unOk_spec hdst.2 o (List.mem_singleton.2 rfl))
  have hi0 : l0[i]? = some o := by
    have := congrArg (fun l => l[0]?) hl
    simpa [List.getElem?_drop] using this
  have hlt : i < l0.length := (List.getElem?_eq_some_iff.1 hi0).1
  have hh := h (fun ts hp _ yc => GA P C n d ro l0.toArray base fuel (listed.setIfInBounds i true) ts hp yc K) (fun _ _ _ _ a => a)
  have ek : (l0.take i).length = i := by simp; omega
  have hx : lexX P C.G ⟨C.Y, pn, false⟩ l0.toArray base (fun ts hp _ yc => GA P C n d ro l0.toArray base fuel (listed.setIfInBounds i true) ts hp yc K) (fun _ _ => False) i [o] ts hp [] yc true false := by
    refine lexX_of_lexS' (Q := ⟨_, fun _ _ => False⟩) [o] _ i _ _ _ _ _ _ (fun j hj => ?_) (fun j hj => ?_) hh
    · rw [List.getElem?_reverse (by simp; omega)]
      simp only [List.length_map, ek, List.getElem?_map, List.getElem?_toArray]
      rw [show i - 1 - (i - 1 - j) = j by omega, List.getElem?_take, if_pos hj]
      cases l0[j]? <;> rfl
    · obtain rfl : j = 0 := by simpa using hj
      simp [hi0]
  have hfree : ∀ x, base + 8 * i ≤ x → x < base + 8 * i + 8 → hp x = none := hf.at' i hi
  unfold wpOpIn
  rw [List.getElem?_toArray, hi0]
  simp only
  simp only [lexX] at hx
  cases hw : wantedG l0.toArray o ts with
  | none => rw [hw] at hx; exact hx.elim
  | some b =>
    rw [hw] at hx
    rw [wantedG_eq hRI.rel hw]
    cases b with
    | true =>
      simp only at hx
      simp only [if_true]
      obtain ⟨e, h1, hs, hyd, h3⟩ := opX_sound hG hRI.glob hx
      refine meets hG hR o e ts hp yc r a W 0 _ _ hRI hok.1 h1 (fun x hx => (hs.ws x hx).2) (fun x hx => ?_) (fun r' a' W' hpn hi' => ?_) (fun pv W' yc' hpn hi' => ?_)
      · have := hs.ns x hx; exact ⟨hfree x (by omega) (by omega), by omega⟩
      · rw [hpn] at h3
        refine h3 r' a' W' hi' (hf.after (by simpa using hlt) fun x hx0 hx1 => ?_) hb hG hR
        rw [updL_other (fun hm => ?_)]
        · exact hx0
        · have : x ∈ keys e.ws ∨ x ∈ keys e.ns := by simpa [keys] using hm
          rcases this with h | h
          · exact (hs.ws x h).2.1 hx0
          · have := hs.ns x h; omega
      · rw [hpn] at h3
        exact h3.2.2.elim
    | false =>
      simp only at hx
      simp only [Bool.false_eq_true, if_false]
      exact ⟨meetsU (Y := none) o ts r _ a W hRI.rel ⟨hx.1, hok.2⟩, hx.2 r _ W (hRI.put_undef hok.1.1) (hf.after (by simpa using hlt) fun x hx0 _ => hx0) hb hG hR⟩
/-- What a call asks that hands back any of a kind. -/
theorem GO_callL {G : Hp} {ops : Array Oper} {o : Oper} {base i fuel : Nat} {listed : Array Bool} {ts : Nat → Value} {hp hp' : Hp} {yc : Nat} {c : Call} {f : Operand} {g : FuncId} {cap : Array Value} {rs : List Nat} {args : Array Value} {R : Value → List (Nat × Blk) → Prop} (hCG : C.G = G) (hr : FunS P G g args hp' rs R) (hio : ops[i]? = some o) (hi : listed[i]? = some false) (hg : o.guard = none) (hd : ∀ dd, o.dst = some dd → dd < n)
    (ho : o.op = .call c) (hc : c.callee = .value f) (hf : okT ts f) (hgf : gev ts f = .func (.func g) #[] cap) (hcp : cap.all plain0 = true) (ha : ∀ x ∈ c.args.toList, okX ts hp x) (hargs : c.args.map (gev ts) ++ cap = args)
    (h1 : ∀ q ∈ rs, hp' q = hp q) (h2 : ∀ q, q < 100 → hp' q = hp q) (hat : ∀ v ns, R v ns → ∀ q ∈ keys ns, base + 8 * i ≤ q ∧ q < base + 8 * i + 8)
    (h : ∀ v ns, R v ns → GA P C n d ro ops base fuel (listed.setIfInBounds i true) (putT ts o.dst v) (updL hp ns) yc K) : GO P C n d ro ops base fuel listed i ts hp yc K := by
  subst hCG
  intro r a W hRI hfr hb hG hR
  unfold wpOpIn
  rw [hio]
  simp only [Region.wanted, hg, if_true]
  refine step_callS hG hRI hd ho hc hf hgf hcp ha (by rw [hargs]; exact hr.under fun q hq => hq.elim (h2 q) (h1 q)) (fun v ns hRv q hq => hfr.at' i hi q (hat v ns hRv q hq).1 (hat v ns hRv q hq).2) (fun v ns hRv r' a' W' hi' => h v ns hRv r' a' W' hi' (hfr.after (Array.getElem?_eq_some_iff.1 hio).1 fun x hx hx1 => ?_) hb hG hR)
  rw [updL_other (fun hm => hx1 (hat v ns hRv x hm))]
  exact hx
theorem all_two {p : Nat → Prop} {a b : Nat} (h1 : p a) (h2 : p b) : ∀ i ∈ [a, b], p i := fun i hi => by
  simp at hi
  rcases hi with rfl | rfl
  · exact h1
  · exact h2
theorem all_one {p : Nat → Prop} {a : Nat} (h1 : p a) : ∀ i ∈ [a], p i := fun i hi => by
  simp at hi
  subst hi
  exact h1
end
end Go.Gy
namespace Go.Gy
set_option linter.unusedSimpArgs false
set_option linter.unusedVariables false
open Go Go.RowKit Go.Proofs
def erB (E : Int) : Blk := ⟨#[.int .i64 E], .ty 29⟩
/-- Where the label stands. -/
def drSt (b : Blk) (st : Int) (off n cap c M : Nat) (g : Nat → Int) (E : Int) : GS :=
  ⟨tsL [(3, .pointer (some ⟨200, 0, none⟩)), (6, .pointer (some ⟨208, 0, none⟩)), (7, .pointer (some ⟨216, 0, none⟩))],
   hpL G0 [(100, b), (200, stB' st 100 off n cap), (208, stB' st 248 0 n c), (216, erB E), (248, ⟨fa M .i64 g, .ty 44⟩)], 600, 0⟩
/-- What lies about behind i rounds. -/
def drM (st : Int) (n c M : Nat) (g f : Nat → Int) (p q : Int) (i : Nat) : List (Nat × Blk) := [(208, stB' st 248 0 n c), (216, erB 0), (224, jb i), (248, ⟨fa M .i64 (mvG g f p q i), .ty 44⟩)]
theorem put_row {M n : Nat} {g f : Nat → Int} {p q : Int} (hM : 6 * n ≤ M) {i : Nat} (hi : i < n) :
    (((fa M IntKind.i64 (mvG g f p q i)).setIfInBounds (i * 6) (Value.int IntKind.i64 (addI (f (6 * i)) (dwV f p q i 0)))).setIfInBounds (i * 6 + 1) (Value.int IntKind.i64 (addI (f (6 * i + 1)) (dwV f p q i 1)))).setIfInBounds (i * 6 + 1 + 1) (Value.int IntKind.i64 (addI (f (6 * i + 2)) (dwV f p q i 2))) = fa M IntKind.i64 (mvG g f p q (i + 1)) := by
  have := splice_3 M .i64 (mvG g f p q i) (6 * i) (addI (f (6 * i)) (dwV f p q i 0)) (addI (f (6 * i + 1)) (dwV f p q i 1)) (addI (f (6 * i + 2)) (dwV f p q i 2)) (by omega)
  rw [mvG_put (a := addI (f (6 * i)) (dwV f p q i 0)) (b := addI (f (6 * i + 1)) (dwV f p q i 1)) (c := addI (f (6 * i + 2)) (dwV f p q i 2)) rfl rfl rfl] at this
  rw [show i * 6 = 6 * i by omega]
  simpa [splice] using this
theorem ea_in {x0 x1 x2 w0 w1 w2 : Int} (he : eaE addI x0 x1 x2 w0 w1 w2 = 0) : i64 (addI x0 w0) ∧ i64 (addI x1 w1) ∧ i64 (addI x2 w2) := by
  unfold eaE at he
  split at he
  · rename_i h
    obtain ⟨_, h0, h1, h2⟩ := h
    unfold fnI at h0 h1 h2
    exact ⟨⟨by omega, by omega⟩, ⟨by omega, by omega⟩, ⟨by omega, by omega⟩⟩
  · cases he
theorem eaV_0 (z : Int) : eaV 0 z = z := by simp [eaV]
theorem row_vec {M n : Nat} {g f : Nat → Int} {p q : Int} (hM : 6 * n ≤ M) (hg : ∀ j, j < 6 * n → g j = f j) {i : Nat} (hi : i < n) : loadK Tryd.prog 26 ⟨fa M .i64 (mvG g f p q i), .ty 44⟩ (i * 6) = some (.agg #[.int .i64 (f (6 * i)), .int .i64 (f (6 * i + 1)), .int .i64 (f (6 * i + 2))]) := by
  have := loadK_rd (P := Tryd.prog) (T := 26) (m := 3) (j := 6 * i) (tyAgg_of Tryd.isAgg26) (tySize_of Tryd.sizeOf26) (by omega) (rdI_fa M (mvG g f p q i) (.ty 44)) (by omega)
  rw [show i * 6 = 0 + 6 * i by omega, this, fa_3, mvG_at (by omega), mvG_at (by omega), mvG_at (by omega), hg _ (by omega), hg _ (by omega), hg _ (by omega)]
  rfl
set_option maxRecDepth 8000 in
set_option maxHeartbeats 4000000 in
theorem drift_fun (b : Blk) (off n cap : Nat) (f : Nat → Int) (h : SB b off n f) (hcap : n ≤ cap) (st p q : Int) (hs : i64 st) (hp : i64 p) (hq : i64 q) :
    FunS Tryd.prog G0 21 #[.agg #[.int .i64 st, .slice (some ⟨100, off, none⟩) n cap], .int .i64 p, .int .i64 q] (hpL G0 [(100, b)]) (keys [(100, b)]) (DriftR 1000 st n (drF st f n p q) (drE st f n p q)) := by
  refine newS_ofL (B := 200) G0F Tryd.func21 rfl Tryd.call21 (oneL_ok h.fx) ?_ driftR_fit (by simp [Tryd.ntmps21]) (by omega) ?_
  · simp [idsV, idsA, idsF, ids0, keys]
  intro C hC hC0 hY
  have hr := fun ρ => Blk.fx_rn h.fx ρ
  have hid := fun D => Blk.fx_ids h.fx D
  have hnn := h.nn
  repeat' (first | refine GW_seq ?_ | simp only [List.length_cons, List.length_nil, Nat.reduceAdd, Nat.reduceMul, wN] | ((first | refine GW_region' [] (by kernel_rfl) ?_ | refine GW_draw' [] follows (by kernel_rfl) (by kernel_rfl) ?_); intro Q hQ hP; simp [hC, hY]; (first | refine hQ _ _ _ _ ?_ | refine hQ _ _ _ _ (by kernel_rfl) ?_ | refine hP _ _ (fun _ => ?_) | refine hP _ _ (by kernel_rfl) (fun _ => ?_)); clear hQ hP Q) | refine GW_block ?_ | refine GW_ret ?_ | refine GW_skip ?_ | refine GW_exit ?_ | refine GW_goto ?_ | refine GW_label ?_ | simp only [blockG_exit] | (refine GW_cond (by simp; rfl) ?_ ?_ <;> (intro hb; first | (exfalso; exact absurd hb (by decide)) | skip)))
  refine GW_scope' 0 (fun m s => ∃ (c M : Nat) (g : Nat → Int) (E : Int), drE st f n p q = E ∧ E ≠ 0 ∧ s = drSt b st off n cap c M g E) rfl ?_ ?_
  · rintro m _ ⟨c, M, g, E, hE, hE0, rfl⟩
    have hF : drF st f n p q = f := by unfold drF; rw [if_neg (by omega)]
    rw [hF, hE]
    have hend : ∀ (ts : Nat → Value) (hp : Hp) (v0 : Value) (ns : List (Nat × Blk)), True := fun _ _ _ _ => trivial
    unfold drSt stB' erB
    refine GW_seq ?_
    refine GW_any follows ?_
    simp only [Array.toList, List.length_cons, List.length_nil, Nat.reduceAdd]
    repeat' (first
      | refine GA_step [0, 2] (by decide +kernel) rfl (all_two ?_ ?_)
      | refine GA_step [1, 2] (by decide +kernel) rfl (all_two ?_ ?_)
      | refine GA_step [2, 3] (by decide +kernel) rfl (all_two ?_ ?_)
      | refine GA_step [0] (by decide +kernel) rfl (all_one ?_)
      | refine GA_step [1] (by decide +kernel) rfl (all_one ?_)
      | refine GA_step [2] (by decide +kernel) rfl (all_one ?_)
      | refine GA_step [3] (by decide +kernel) rfl (all_one ?_)
      | refine GA_step [4] (by decide +kernel) rfl (all_one ?_)
      | refine GA_nil (by decide +kernel) ?_
      | (
        refine GO_walk [] rfl (by kernel_rfl) (by simp) ?_; intro q hq; simp [hC, hY, putT, updL, stB', erB]; refine hq _ _ _ _ ?_; clear hq q
        )
      | (refine GO_callL (f := .func 47) (cap := #[]) hC (own_at 608 (by omega) b off n cap f h hcap st) rfl rfl rfl (by simp) rfl rfl (by simp [okT]) (by simp [gev]) (by simp) (by simp [okX, putT, junk, upd]) (by simp [gev, putT, upd]) (by simp [updL]) (by (intro k hk; first | rfl | (simp (disch := omega) only [addB, List.mem_cons, List.not_mem_nil, or_false, upd_other, hpL_cons, hpL_nil, if_neg, updL] <;> done))) ?_ ?_
         · rintro v ns ⟨c3, M3, g3, k1, k2, k3, rfl, rfl⟩
           simp [keys]
         rintro v ns ⟨c3, M3, g3, k1, k2, k3, rfl, rfl⟩)
      )
    all_goals (
      repeat' (first | refine GW_seq ?_ | simp only [List.length_cons, List.length_nil, Nat.reduceAdd, Nat.reduceMul, wN] | ((first | refine GW_region' [] (by kernel_rfl) ?_ | refine GW_draw' [] follows (by kernel_rfl) (by kernel_rfl) ?_); intro Q hQ hP; simp [hC, hY]; (first | refine hQ _ _ _ _ ?_ | refine hQ _ _ _ _ (by kernel_rfl) ?_ | refine hP _ _ (fun _ => ?_) | refine hP _ _ (by kernel_rfl) (fun _ => ?_)); clear hQ hP Q) | refine GW_block ?_ | refine GW_ret ?_ | refine GW_skip ?_ | refine GW_exit ?_ | refine GW_goto ?_ | refine GW_label ?_ | simp only [blockG_exit] | (refine GW_cond (by simp; rfl) ?_ ?_ <;> (intro hb; first | (exfalso; exact absurd hb (by decide)) | skip)))
      )
    all_goals (refine ⟨.inr trivial, keep_of G0F (by simp) (by (intro k hk; first | rfl | (simp (disch := omega) only [addB, List.mem_cons, List.not_mem_nil, or_false, upd_other, hpL_cons, hpL_nil, if_neg, updL] <;> done))), _, _, fun k => if k = 1000 then 608 else k, ⟨_, ⟨c3, M3, g3, k1, k2, k3, rfl, rfl⟩, rfl⟩, fun k hk => if_neg (by omega), by simp, by simp, ?_, ?_⟩)
    all_goals first | (simp [Tryd.results21, ren, renA, renF, ren0]; done) | simp [fa_rn]
  · intro pass
    clear pass
    repeat' (first | refine GW_seq ?_ | simp only [List.length_cons, List.length_nil, Nat.reduceAdd, Nat.reduceMul, wN] | ((first | refine GW_region' [] (by kernel_rfl) ?_ | refine GW_draw' [] follows (by kernel_rfl) (by kernel_rfl) ?_); intro Q hQ hP; simp [hC, hY]; (first | refine hQ _ _ _ _ ?_ | refine hQ _ _ _ _ (by kernel_rfl) ?_ | refine hP _ _ (fun _ => ?_) | refine hP _ _ (by kernel_rfl) (fun _ => ?_)); clear hQ hP Q) | refine GW_block ?_ | refine GW_ret ?_ | refine GW_skip ?_ | refine GW_exit ?_ | refine GW_goto ?_ | refine GW_label ?_ | simp only [blockG_exit] | (refine GW_cond (by simp; rfl) ?_ ?_ <;> (intro hb; first | (exfalso; exact absurd hb (by decide)) | skip)))
    refine GW_list ?_
    simp only [Array.toList]
    refine GL_walk 1 [] rfl (by simp) (by kernel_rfl) ?_; intro q hq; simp [hC, hY]; refine hq _ _ _ _ ?_; clear hq q
    simp only [wT, List.length_cons, List.length_nil, Nat.reduceAdd]
    refine GL_callL (f := .func 47) (cap := #[]) hC (own_at 248 (by omega) b off n cap f h hcap st) rfl (by simp) rfl rfl (by simp [okT]) (by simp [gev]) (by simp) (by simp [okX, junk]) (by simp [gev]) (by simp) (by (intro k hk; first | rfl | (simp (disch := omega) only [addB, List.mem_cons, List.not_mem_nil, or_false, upd_other, hpL_cons, hpL_nil, if_neg, updL] <;> done))) ?_ ?_
    · rintro v ns ⟨c2, M2, g2, h1, h2, h3, rfl, rfl⟩
      simp [keys]
    rintro v ns ⟨c2, M2, g2, h1, h2, h3, rfl, rfl⟩
    refine GL_walk 1 [] rfl (by simp) (by kernel_rfl) ?_; intro q hq; simp [hC, hY, putT, updL]; refine hq _ _ _ _ ?_; clear hq q
    simp only [wT, List.length_cons, List.length_nil, Nat.reduceAdd]
    refine GL_nil ?_
    repeat' (first | refine GW_seq ?_ | simp only [List.length_cons, List.length_nil, Nat.reduceAdd, Nat.reduceMul, wN] | ((first | refine GW_region' [] (by kernel_rfl) ?_ | refine GW_draw' [] follows (by kernel_rfl) (by kernel_rfl) ?_); intro Q hQ hP; simp [hC, hY]; (first | refine hQ _ _ _ _ ?_ | refine hQ _ _ _ _ (by kernel_rfl) ?_ | refine hP _ _ (fun _ => ?_) | refine hP _ _ (by kernel_rfl) (fun _ => ?_)); clear hQ hP Q) | refine GW_block ?_ | refine GW_ret ?_ | refine GW_skip ?_ | refine GW_exit ?_ | refine GW_goto ?_ | refine GW_label ?_ | simp only [blockG_exit] | (refine GW_cond (by simp; rfl) ?_ ?_ <;> (intro hb; first | (exfalso; exact absurd hb (by decide)) | skip)))
    cases c0 : rightB st f n with
    | false =>
      have hE : drE st f n p q = 2 := by unfold drE; rw [c0]; rfl
      repeat' (first | refine GW_seq ?_ | simp only [List.length_cons, List.length_nil, Nat.reduceAdd, Nat.reduceMul, wN] | ((first | refine GW_region' [44] (by kernel_rfl) ?_ | refine GW_draw' [44] follows (by kernel_rfl) (by kernel_rfl) ?_); intro Q hQ hP; simp [hC, hY, hp, c0]; (repeat ((first | (refine heapK_mv (rig_fun b off n cap f h st hs) G0F (B := 200) (oneL_ok h.fx) (fun k => k) (fun k hk => rfl) (by simp [ren, renA, renF, ren0]) (by simp) (by simp [hr]) (by simp [keys]) (by simp [keys]; rfl) ?_)); try simp [hC, hY, hp, c0])); (first | refine hQ _ _ _ _ ?_ | refine hQ _ _ _ _ (by kernel_rfl) ?_ | refine hP _ _ (fun _ => ?_) | refine hP _ _ (by kernel_rfl) (fun _ => ?_)); clear hQ hP Q) | refine GW_block ?_ | refine GW_ret ?_ | refine GW_skip ?_ | refine GW_exit ?_ | refine GW_goto ?_ | refine GW_label ?_ | simp only [blockG_exit] | (refine GW_cond (by simp; rfl) ?_ ?_ <;> (intro hb; first | (exfalso; exact absurd hb (by decide)) | skip)))
      refine ⟨rfl, drSt b st off n cap c2 M2 g2 2, 0, weakL _ 600 hC G0F (m0 := [(100, b)]) hC0 (by omega) ?_ ?_ ?_, ⟨c2, M2, g2, 2, hE, by omega, rfl⟩⟩
      · simp [idsV, idsA, idsF, ids0, dom]
      · simp [stB', erB, ids_lit, idsF, ids0, hid, dom, Blk.fx_ids (fa_fx _ _ _)]
      · simp
    | true =>
      cases c1 : partB p q with
      | false =>
        have hE : drE st f n p q = 2 := by unfold drE; rw [c0, c1]; rfl
        repeat' (first | refine GW_seq ?_ | simp only [List.length_cons, List.length_nil, Nat.reduceAdd, Nat.reduceMul, wN] | ((first | refine GW_region' [44] (by kernel_rfl) ?_ | refine GW_draw' [44] follows (by kernel_rfl) (by kernel_rfl) ?_); intro Q hQ hP; simp [hC, hY, hp, c0, c1]; (repeat ((first | (refine heapK_mv (rig_fun b off n cap f h st hs) G0F (B := 200) (oneL_ok h.fx) (fun k => k) (fun k hk => rfl) (by simp [ren, renA, renF, ren0]) (by simp) (by simp [hr]) (by simp [keys]) (by simp [keys]; rfl) ?_)); try simp [hC, hY, hp, c0, c1])); (first | refine hQ _ _ _ _ ?_ | refine hQ _ _ _ _ (by kernel_rfl) ?_ | refine hP _ _ (fun _ => ?_) | refine hP _ _ (by kernel_rfl) (fun _ => ?_)); clear hQ hP Q) | refine GW_block ?_ | refine GW_ret ?_ | refine GW_skip ?_ | refine GW_exit ?_ | refine GW_goto ?_ | refine GW_label ?_ | simp only [blockG_exit] | (refine GW_cond (by simp; rfl) ?_ ?_ <;> (intro hb; first | (exfalso; exact absurd hb (by decide)) | skip)))
        refine ⟨rfl, drSt b st off n cap c2 M2 g2 2, 0, weakL _ 600 hC G0F (m0 := [(100, b)]) hC0 (by omega) ?_ ?_ ?_, ⟨c2, M2, g2, 2, hE, by omega, rfl⟩⟩
        · simp [idsV, idsA, idsF, ids0, dom]
        · simp [stB', erB, ids_lit, idsF, ids0, hid, dom, Blk.fx_ids (fa_fx _ _ _)]
        · simp
      | true =>
        repeat' (first | refine GW_seq ?_ | simp only [List.length_cons, List.length_nil, Nat.reduceAdd, Nat.reduceMul, wN] | ((first | refine GW_region' [44] (by kernel_rfl) ?_ | refine GW_draw' [44] follows (by kernel_rfl) (by kernel_rfl) ?_); intro Q hQ hP; simp [hC, hY, hp, c0, c1]; (repeat ((first | (refine heapK_mv (rig_fun b off n cap f h st hs) G0F (B := 200) (oneL_ok h.fx) (fun k => k) (fun k hk => rfl) (by simp [ren, renA, renF, ren0]) (by simp) (by simp [hr]) (by simp [keys]) (by simp [keys]; rfl) ?_)); try simp [hC, hY, hp, c0, c1])); (first | refine hQ _ _ _ _ ?_ | refine hQ _ _ _ _ (by kernel_rfl) ?_ | refine hP _ _ (fun _ => ?_) | refine hP _ _ (by kernel_rfl) (fun _ => ?_)); clear hQ hP Q) | refine GW_block ?_ | refine GW_ret ?_ | refine GW_skip ?_ | refine GW_exit ?_ | refine GW_goto ?_ | refine GW_label ?_ | simp only [blockG_exit] | (refine GW_cond (by simp; rfl) ?_ ?_ <;> (intro hb; first | (exfalso; exact absurd hb (by decide)) | skip)))
        refine GW_list ?_
        simp only [Array.toList]
        refine GL_walk 3 [] rfl (by simp) (by kernel_rfl) ?_; intro q hq; simp [hC, hY]; refine hq _ _ _ _ ?_; clear hq q
        simp only [wT, List.length_cons, List.length_nil, Nat.reduceAdd]
        refine GL_callL (f := .func 46) (cap := #[]) hC (ways_at 360 (by omega) b off n cap h.fx st p q) rfl (by simp) rfl rfl (by simp [okT]) (by simp [gev]) (by simp) (by simp [okX, junk]) (by simp [gev]) (by simp) (by (intro k hk; first | rfl | (simp (disch := omega) only [addB, List.mem_cons, List.not_mem_nil, or_false, upd_other, hpL_cons, hpL_nil, if_neg, updL] <;> done))) (fun v ns hV k hk => by have := wayR_key hV k hk; omega) ?_
        rintro v ns ⟨rfl, rfl⟩
        refine GL_nil ?_
        repeat' (first | refine GW_seq ?_ | simp only [List.length_cons, List.length_nil, Nat.reduceAdd, Nat.reduceMul, wN] | ((first | refine GW_region' [] (by kernel_rfl) ?_ | refine GW_draw' [] follows (by kernel_rfl) (by kernel_rfl) ?_); intro Q hQ hP; simp [hC, hY, putT, updL, wayNs]; (first | refine hQ _ _ _ _ ?_ | refine hQ _ _ _ _ (by kernel_rfl) ?_ | refine hP _ _ (fun _ => ?_) | refine hP _ _ (by kernel_rfl) (fun _ => ?_)); clear hQ hP Q) | refine GW_block ?_ | refine GW_ret ?_ | refine GW_skip ?_ | refine GW_exit ?_ | refine GW_goto ?_ | refine GW_label ?_ | simp only [blockG_exit] | (refine GW_cond (by simp; rfl) ?_ ?_ <;> (intro hb; first | (exfalso; exact absurd hb (by decide)) | skip)))
        simp only [putT, updL, wayNs, Nat.reduceAdd]
        obtain ⟨N, hN, hlt, hend⟩ := leadB (okB f p q) n
        refine GW_rangeKL (G := G0) (f := 80) (rs := [360, 363, 100, 361, 362]) (xs := dwXs f p q n) (caps := #[.pointer (some ⟨360, 0, none⟩), .pointer (some ⟨363, 0, none⟩)]) (m0 := [(100, b)]) [100, 200, 360, 361, 362, 363] G0F hC hC0 hY (by simp) ?_ ?_ (by simp [Tryd.ntmps21]) [(6, .pointer (some ⟨208, 0, none⟩)), (7, .pointer (some ⟨216, 0, none⟩)), (8, .pointer (some ⟨224, 0, none⟩))] [(3, .pointer (some ⟨200, 0, none⟩))] (drM st n c2 M2 g2 f p q) 400 N (by rw [dwXs_len]; exact hN) (by omega) (by simp) (by simp [dom]) ?_ (by simp) (by simp [idsV, idsA, idsF, ids0]) ?_ ?_ (by simp) ?_ ?_
        · refine iterk_mv (ways_it b off n cap f h st p q hp hq) G0F (wyL_ok h.fx st off n cap p q) (dnk 360 0) dnk_low (by simp [ren0, dnk]) (by simp [wyL, keys, dnk]) (by (intro k hk; first | rfl | (simp (disch := omega) only [addB, List.mem_cons, List.not_mem_nil, or_false, upd_other, hpL_cons, hpL_nil, if_neg, updL] <;> done))) ?_ ?_
          · simp [wyL, dnk, stB'_rn, fnB_rn, jb_rn, hr]
          · simp [wyL, keys, dnk]
        · intro x hx
          simp [dwXs] at hx
          obtain ⟨i, _, rfl⟩ := hx
          simp [dwA]
        · intro k hk bb hb
          simp only [List.mem_cons, List.not_mem_nil, or_false] at hk
          rcases hk with rfl | rfl | rfl | rfl | rfl | rfl
          · simp at hb; subst hb; exact hid _
          all_goals (simp at hb; subst hb; simp [ids_lit, idsF, ids0, stB', fnB, jb])
        · simp [drM, mvG_0, erB, jb, stB']
        · intro i hi
          simp [drM, idsV, idsA, idsF, ids0, dom, ids_lit, erB, jb, stB', Blk.fx_ids (fa_fx _ _ _)]
        · intro i x hi hx C1 l hC1 hh1 hY1
          have hin : i < n := by omega
          rw [dwXs_at _ _ _ _ _ hin] at hx
          simp only [Option.some.injEq] at hx
          subst hx
          clear hC hY
          have hC := hC1
          have hY := hY1
          unfold drM stB' erB dwA
          repeat' (first | refine GW_seq ?_ | simp only [List.length_cons, List.length_nil, Nat.reduceAdd, Nat.reduceMul, wN] | ((first | refine GW_region' [] (by kernel_rfl) ?_ | refine GW_draw' [] follows (by kernel_rfl) (by kernel_rfl) ?_); intro Q hQ hP; simp [hC, hY, roundTs]; (first | refine hQ _ _ _ _ ?_ | refine hQ _ _ _ _ (by kernel_rfl) ?_ | refine hP _ _ (fun _ => ?_) | refine hP _ _ (by kernel_rfl) (fun _ => ?_)); clear hQ hP Q) | refine GW_block ?_ | refine GW_ret ?_ | refine GW_skip ?_ | refine GW_exit ?_ | refine GW_goto ?_ | refine GW_label ?_ | simp only [blockG_exit] | (refine GW_cond (by simp; rfl) ?_ ?_ <;> (intro hb; first | (exfalso; exact absurd hb (by decide)) | skip)))
          intro C2 hC2 hh2 hY2
          clear hC hY
          have hC := hC2
          have hY := hY2
          have hi' : (i : Int) < n := by omega
          have hz : (0 : Int) ≤ i := by omega
          have hs : Int.bmod ((i : Int) + 1) 18446744073709551616 = ((i + 1 : Nat) : Int) := by rw [bm (by omega) (by omega)]; rfl
          have hl := row_vec (p := p) (q := q) h2 h3 hin
          have hx3 := (right_b c0 hin).1
          have hok := hlt i hi
          have he : eaE addI (f (6 * i)) (f (6 * i + 1)) (f (6 * i + 2)) (dwV f p q i 0) (dwV f p q i 1) (dwV f p q i 2) = 0 := by
            rcases eaE_or addI (f (6 * i)) (f (6 * i + 1)) (f (6 * i + 2)) (dwV f p q i 0) (dwV f p q i 1) (dwV f p q i 2) with e | e
            · exact e
            · have := ok_over hx3.1 hx3.2.1 hx3.2.2 e
              unfold okB at hok
              rw [this] at hok
              cases hok
          have hok' : inV 1048576 (addI (f (6 * i)) (dwV f p q i 0)) (addI (f (6 * i + 1)) (dwV f p q i 1)) (addI (f (6 * i + 2)) (dwV f p q i 2)) = true := hok
          have hw := inV_iff.1 hok'
          have w0 : i64 (addI (f (6 * i)) (dwV f p q i 0)) := by have := hw.1; unfold inW at this; exact ⟨by omega, by omega⟩
          have w1 : i64 (addI (f (6 * i + 1)) (dwV f p q i 1)) := by have := hw.2.1; unfold inW at this; exact ⟨by omega, by omega⟩
          have w2 : i64 (addI (f (6 * i + 2)) (dwV f p q i 2)) := by have := hw.2.2; unfold inW at this; exact ⟨by omega, by omega⟩
          have hM : i * 6 + 3 ≤ M2 := by omega
          repeat' (first | refine GW_seq ?_ | simp only [List.length_cons, List.length_nil, Nat.reduceAdd, Nat.reduceMul, wN] | ((first | refine GW_region' [] (by kernel_rfl) ?_ | refine GW_draw' [] follows (by kernel_rfl) (by kernel_rfl) ?_); intro Q hQ hP; simp [hC, hY, roundTs, jb, hi', hz, hs, hl, he, eaV_0, hok', w0, w1, w2, hM, i64_box]; (first | refine hQ _ _ _ _ ?_ | refine hQ _ _ _ _ (by kernel_rfl) ?_ | refine hP _ _ (fun _ => ?_) | refine hP _ _ (by kernel_rfl) (fun _ => ?_)); clear hQ hP Q) | refine GW_block ?_ | refine GW_ret ?_ | refine GW_skip ?_ | refine GW_exit ?_ | refine GW_goto ?_ | refine GW_label ?_ | simp only [blockG_exit] | (refine GW_cond (by simp; rfl) ?_ ?_ <;> (intro hb; first | (exfalso; exact absurd hb (by decide)) | skip)))
          have hput := put_row (g := g2) (f := f) (p := p) (q := q) h2 hin
          simp [hput, jb]
        · by_cases hNn : N = n
          · subst hNn
            left
            have hE : drE st f N p q = 0 := by
              unfold drE
              simp [c0, c1, drOk_iff.2 hlt]
            have hF : drF st f N p q = mvF f p q := by unfold drF; rw [if_pos hE]
            refine ⟨(dwXs_len _ _ _ _).symm, ?_⟩
            unfold drM stB' erB
            repeat' (first | refine GW_seq ?_ | simp only [List.length_cons, List.length_nil, Nat.reduceAdd, Nat.reduceMul, wN] | ((first | refine GW_region' [] (by kernel_rfl) ?_ | refine GW_draw' [] follows (by kernel_rfl) (by kernel_rfl) ?_); intro Q hQ hP; simp [hC, hY, addB, List.cons_append, List.nil_append]; (first | refine hQ _ _ _ _ ?_ | refine hQ _ _ _ _ (by kernel_rfl) ?_ | refine hP _ _ (fun _ => ?_) | refine hP _ _ (by kernel_rfl) (fun _ => ?_)); clear hQ hP Q) | refine GW_block ?_ | refine GW_ret ?_ | refine GW_skip ?_ | refine GW_exit ?_ | refine GW_goto ?_ | refine GW_label ?_ | simp only [blockG_exit] | (refine GW_cond (by simp; rfl) ?_ ?_ <;> (intro hb; first | (exfalso; exact absurd hb (by decide)) | skip)))
            rw [hE, hF]
            refine ⟨.inr trivial, keep_of G0F (by simp [addB]) (by (intro k hk; first | rfl | (simp (disch := omega) only [addB, List.mem_cons, List.not_mem_nil, or_false, upd_other, hpL_cons, hpL_nil, if_neg, updL] <;> done))), _, _, fun k => if k = 1000 then 248 else k, ⟨_, ⟨c2, M2, mvG g2 f p q N, h1, h2, fun j hj => mvG_end hj h3, rfl, rfl⟩, rfl⟩, fun k hk => if_neg (by omega), by simp, by simp, ?_, ?_⟩
            · simp [Tryd.results21, ren, renA, renF, ren0, addB]
            · simp [fa_rn, addB]
          · right
            have hin : N < n := by omega
            have hok := hend.resolve_left hNn
            have hE : drE st f n p q = 20 := by
              unfold drE
              simp [c0, c1, drOk_f hin hok]
            refine ⟨_, dwXs_at _ _ _ _ _ hin, ?_⟩
            intro C1 l hC1 hh1 hY1
            have hCC := hC
            clear hC hY
            have hC := hC1
            have hY := hY1
            unfold drM stB' erB dwA
            repeat' (first | refine GW_seq ?_ | simp only [List.length_cons, List.length_nil, Nat.reduceAdd, Nat.reduceMul, wN] | ((first | refine GW_region' [] (by kernel_rfl) ?_ | refine GW_draw' [] follows (by kernel_rfl) (by kernel_rfl) ?_); intro Q hQ hP; simp [hC, hY, roundTs]; (first | refine hQ _ _ _ _ ?_ | refine hQ _ _ _ _ (by kernel_rfl) ?_ | refine hP _ _ (fun _ => ?_) | refine hP _ _ (by kernel_rfl) (fun _ => ?_)); clear hQ hP Q) | refine GW_block ?_ | refine GW_ret ?_ | refine GW_skip ?_ | refine GW_exit ?_ | refine GW_goto ?_ | refine GW_label ?_ | simp only [blockG_exit] | (refine GW_cond (by simp; rfl) ?_ ?_ <;> (intro hb; first | (exfalso; exact absurd hb (by decide)) | skip)))
            intro C2 hC2 hh2 hY2
            clear hC hY
            have hC := hC2
            have hY := hY2
            have hi' : (N : Int) < n := by omega
            have hz : (0 : Int) ≤ N := by omega
            have hl := row_vec (p := p) (q := q) h2 h3 hin
            have hx3 := (right_b c0 hin).1
            have hM : N * 6 + 3 ≤ M2 := by omega
            rcases eaE_or addI (f (6 * N)) (f (6 * N + 1)) (f (6 * N + 2)) (dwV f p q N 0) (dwV f p q N 1) (dwV f p q N 2) with he | he
            · have hfn := he
              have hok' : inV 1048576 (addI (f (6 * N)) (dwV f p q N 0)) (addI (f (6 * N + 1)) (dwV f p q N 1)) (addI (f (6 * N + 2)) (dwV f p q N 2)) = false := hok
              have hw := ea_in he
              have w0 := hw.1
              have w1 := hw.2.1
              have w2 := hw.2.2
              repeat' (first | refine GW_seq ?_ | simp only [List.length_cons, List.length_nil, Nat.reduceAdd, Nat.reduceMul, wN] | ((first | refine GW_region' [] (by kernel_rfl) ?_ | refine GW_draw' [] follows (by kernel_rfl) (by kernel_rfl) ?_); intro Q hQ hP; simp [hC, hY, roundTs, jb, hi', hz, hl, he, eaV_0, hok', w0, w1, w2, hM, i64_box]; (first | refine hQ _ _ _ _ ?_ | refine hQ _ _ _ _ (by kernel_rfl) ?_ | refine hP _ _ (fun _ => ?_) | refine hP _ _ (by kernel_rfl) (fun _ => ?_)); clear hQ hP Q) | refine GW_block ?_ | refine GW_ret ?_ | refine GW_skip ?_ | refine GW_exit ?_ | refine GW_goto ?_ | refine GW_label ?_ | simp only [blockG_exit] | (refine GW_cond (by simp; rfl) ?_ ?_ <;> (intro hb; first | (exfalso; exact absurd hb (by decide)) | skip)))
              refine ⟨by simp [outCode], by simp [idsV, idsA, idsF, ids0, dom], by simp, rfl, drSt b st off n cap c2 M2 (mvG g2 f p q N) 20, 0, weakL _ 600 hCC G0F (m0 := [(100, b)]) hC0 (by omega) ?_ ?_ ?_, ⟨c2, M2, mvG g2 f p q N, 20, hE, by omega, rfl⟩⟩
              · simp [idsV, idsA, idsF, ids0, dom, addB]
              · simp [stB', erB, ids_lit, idsF, ids0, hid, dom, addB, Blk.fx_ids (fa_fx _ _ _)]
              · simp [addB]
            ·
              repeat' (first | refine GW_seq ?_ | simp only [List.length_cons, List.length_nil, Nat.reduceAdd, Nat.reduceMul, wN] | ((first | refine GW_region' [] (by kernel_rfl) ?_ | refine GW_draw' [] follows (by kernel_rfl) (by kernel_rfl) ?_); intro Q hQ hP; simp [hC, hY, roundTs, jb, hi', hz, hl, he, eaV_0, hM, i64_box]; (first | refine hQ _ _ _ _ ?_ | refine hQ _ _ _ _ (by kernel_rfl) ?_ | refine hP _ _ (fun _ => ?_) | refine hP _ _ (by kernel_rfl) (fun _ => ?_)); clear hQ hP Q) | refine GW_block ?_ | refine GW_ret ?_ | refine GW_skip ?_ | refine GW_exit ?_ | refine GW_goto ?_ | refine GW_label ?_ | simp only [blockG_exit] | (refine GW_cond (by simp; rfl) ?_ ?_ <;> (intro hb; first | (exfalso; exact absurd hb (by decide)) | skip)))
              refine ⟨by simp [outCode], by simp [idsV, idsA, idsF, ids0, dom], by simp, rfl, drSt b st off n cap c2 M2 (mvG g2 f p q N) 20, 0, weakL _ 600 hCC G0F (m0 := [(100, b)]) hC0 (by omega) ?_ ?_ ?_, ⟨c2, M2, mvG g2 f p q N, 20, hE, by omega, rfl⟩⟩
              · simp [idsV, idsA, idsF, ids0, dom, addB]
              · simp [stB', erB, ids_lit, idsF, ids0, hid, dom, addB, Blk.fx_ids (fa_fx _ _ _)]
              · simp [addB]
end Go.Gy
namespace Go.Gy
set_option linter.unusedSimpArgs false
set_option linter.unusedVariables false
open Go Go.RowKit Go.Proofs
theorem driftR_rr {nk nk' n : Nat} {st E : Int} {F : Nat → Int} {ρ : Nat → Nat} (h : ρ nk = nk') : RR ρ (DriftR nk st n F E) = DriftR nk' st n F E := by
  funext v ns
  apply propext
  constructor
  · rintro ⟨v0, ns0, ⟨w, ⟨c, M, g, h1, h2, h3, rfl, rfl⟩, rfl⟩, rfl, rfl⟩
    exact ⟨_, ⟨c, M, g, h1, h2, h3, rfl, by simp [rnL, fa_rn, h]⟩, by simp [ren, renA, renF, ren0, h]⟩
  · rintro ⟨w, ⟨c, M, g, h1, h2, h3, rfl, rfl⟩, rfl⟩
    exact ⟨_, _, ⟨_, ⟨c, M, g, h1, h2, h3, rfl, rfl⟩, rfl⟩, by simp [ren, renA, renF, ren0, h], by simp [rnL, fa_rn, h]⟩
theorem driftR_key {nk n : Nat} {st E : Int} {F : Nat → Int} {v : Value} {ns : List (Nat × Blk)} (h : DriftR nk st n F E v ns) : ∀ k ∈ keys ns, k = nk := by
  obtain ⟨w, ⟨c, M, g, h1, h2, h3, rfl, rfl⟩, rfl⟩ := h
  simp [keys]
/-- Block 100 stands at nb, a new one's name is nk. -/
def nn2 (nb nk k : Nat) : Nat := if k = 100 then nb else if k = 1000 then nk else k
theorem nn2_low {nb nk : Nat} (k : Nat) (hk : k < 100) : nn2 nb nk k = k := by
  unfold nn2
  rw [if_neg (by omega), if_neg (by omega)]
theorem nn2_b {nb nk : Nat} : nn2 nb nk 100 = nb := by simp [nn2]
theorem nn2_k {nb nk : Nat} : nn2 nb nk 1000 = nk := by simp [nn2]
theorem at_low {nb : Nat} {b : Blk} (h : 100 ≤ nb) (k : Nat) (hk : k < 100) : hpL G0 [(nb, b)] k = G0 k := by
  simp only [hpL_cons, hpL_nil]
  rw [if_neg (by omega)]
theorem drift_at (nb nk : Nat) (hb1 : 100 ≤ nb) (hk1 : 100 ≤ nk) (hbk : nb ≠ nk) (b : Blk) (off n cap : Nat) (f : Nat → Int) (h : SB b off n f) (hcap : n ≤ cap) (st p q : Int) (hs : i64 st) (hp : i64 p) (hq : i64 q) :
    FunS Tryd.prog G0 21 #[.agg #[.int .i64 st, .slice (some ⟨nb, off, none⟩) n cap], .int .i64 p, .int .i64 q] (hpL G0 [(nb, b)]) [nb] (DriftR nk st n (drF st f n p q) (drE st f n p q)) := by
  have hr := fun ρ => Blk.fx_rn h.fx ρ
  refine (drift_fun b off n cap f h hcap st p q hs hp hq).mvL G0F (oneL_ok h.fx) (nn2 nb nk) nn2_low (by simp [ren, renA, renF, ren0, nn2_b]) (by simp [keys, nn2_b]) (driftR_rr nn2_k) (at_low hb1) (by simp [nn2_b, hr, hb1]) (by simp [keys]) (fun v ns hV k hk => ?_) (fun v ns hV k hk l hl _ => by rw [driftR_key hV k hk, driftR_key hV l hl])
  rw [driftR_key hV k hk, nn2_k]
  simp
  exact ⟨hk1, fun e => hbk e.symm⟩
theorem waysR_rr {nk nk' n : Nat} {G : Nat → Int} {ok : Bool} {ρ : Nat → Nat} (h : ρ nk = nk') : RR ρ (WaysR nk n G ok) = WaysR nk' n G ok := by
  funext v ns
  apply propext
  constructor
  · rintro ⟨v0, ns0, ⟨w, hV, rfl⟩, rfl, rfl⟩
    rcases hV with ⟨h1, rfl, rfl⟩ | ⟨c, g, h1, h2, h3, rfl, rfl⟩
    · exact ⟨_, .inl ⟨h1, rfl, by simp [rnL]⟩, by simp [ren, renA, renF, ren0]⟩
    · exact ⟨_, .inr ⟨c, g, h1, h2, h3, rfl, by simp [rnL, fa_rn, h]⟩, by simp [ren, renA, renF, ren0, h]⟩
  · rintro ⟨w, hV, rfl⟩
    rcases hV with ⟨h1, rfl, rfl⟩ | ⟨c, g, h1, h2, h3, rfl, rfl⟩
    · exact ⟨_, _, ⟨_, .inl ⟨h1, rfl, rfl⟩, rfl⟩, by simp [ren, renA, renF, ren0], by simp [rnL]⟩
    · exact ⟨_, _, ⟨_, .inr ⟨c, g, h1, h2, h3, rfl, rfl⟩, rfl⟩, by simp [ren, renA, renF, ren0, h], by simp [rnL, fa_rn, h]⟩
theorem dWays_at (nb nk : Nat) (hb1 : 100 ≤ nb) (hk1 : 100 ≤ nk) (hbk : nb ≠ nk) (b : Blk) (off n cap : Nat) (f : Nat → Int) (h : SB b off n f) (st p q : Int) (hs : i64 st) (hp : i64 p) (hq : i64 q) :
    FunS Tryd.prog G0 19 #[.agg #[.int .i64 st, .slice (some ⟨nb, off, none⟩) n cap], .int .i64 p, .int .i64 q] (hpL G0 [(nb, b)]) [nb] (WaysR nk n (vecsG f p q) (rightB st f n && partB p q)) := by
  have hr := fun ρ => Blk.fx_rn h.fx ρ
  refine (dWays_fun b off n cap f h st p q hs hp hq).mvL G0F (oneL_ok h.fx) (nn2 nb nk) nn2_low (by simp [ren, renA, renF, ren0, nn2_b]) (by simp [keys, nn2_b]) (waysR_rr nn2_k) (at_low hb1) (by simp [nn2_b, hr, hb1]) (by simp [keys]) (fun v ns hV k hk => ?_) (fun v ns hV k hk l hl _ => ?_)
  · obtain ⟨w, hV, rfl⟩ := hV
    rw [vecR_key hV k hk, nn2_k]
    simp
    exact ⟨hk1, fun e => hbk e.symm⟩
  · obtain ⟨w, hV, rfl⟩ := hV
    rw [vecR_key hV k hk, vecR_key hV l hl]
/-! wakes -/
def wkL (x : Int) : Nat → Int := fun j => [x, 2, 3, 5, -5, 0].getD j 0
def wkB (x : Int) : Blk := ⟨#[.int .i64 x, .int .i64 2, .int .i64 3, .int .i64 5, .int .i64 (-5), .int .i64 0], .ty 44⟩
theorem wkB_eq (x : Int) : wkB x = ⟨fa 6 .i64 (wkL x), .ty 44⟩ := by rw [fa_6]; rfl
theorem wkSB (x : Int) (hx : i64 x) : SB (wkB x) 0 1 (wkL x) := by
  rw [wkB_eq]
  refine ⟨rdI_fa _ _ _, fa_fx _ _ _, fun j hj => ?_, by omega⟩
  obtain rfl | rfl | rfl | rfl | rfl | rfl : j = 0 ∨ j = 1 ∨ j = 2 ∨ j = 3 ∨ j = 4 ∨ j = 5 := by omega
  · exact hx
  all_goals (simp [wkL, i64])
theorem wkE0 : drE 4 (wkL 1) 1 1 2 = 0 := by decide +kernel
theorem wkE1 : drE 4 (wkL 1) 1 1 0 = 2 := by decide +kernel
theorem wkE2 : drE 4 (wkL 1048576) 1 1 2 = 20 := by decide +kernel
theorem wkF0 : drF 4 (wkL 1) 1 1 2 0 = 4 ∧ drF 4 (wkL 1) 1 1 2 1 = -1 ∧ drF 4 (wkL 1) 1 1 2 2 = 3 := by decide +kernel
theorem wkW : (rightB 4 (wkL 1048576) 1 && partB (-1) 5) = true := by decide +kernel
theorem wkG : vecsG (wkL 1048576) (-1) 5 0 = -1 ∧ vecsG (wkL 1048576) (-1) 5 1 = 1 ∧ vecsG (wkL 1048576) (-1) 5 2 = 0 := by decide +kernel
theorem wk1 : d1V 3 1 2 = 2 ∧ d1E 3 1 2 = 0 ∧ d1V (-3) 1 2 = -2 ∧ d1E (-3) 1 2 = 0 := by decide +kernel
theorem wkP : partB (-2097152) 1 = true ∧ partB 1 (-1) = false := by decide +kernel
theorem i64_n {z : Int} (h : -9223372036854775808 ≤ z ∧ z ≤ 9223372036854775807) : i64 z := ⟨by omega, by omega⟩
set_option maxRecDepth 8000 in
set_option maxHeartbeats 4000000 in
theorem wakes15_ret : Ret Tryd.prog G0 12 #[] (.bool true) := by
  refine ret_of G0F Tryd.func12 rfl Tryd.call12 rfl (by simp) (by simp [Tryd.ntmps12]) ?_
  intro C hC hC0 hY
  have j0 : i64 3 := i64_n (by omega)
  have j1 : i64 (-3) := i64_n (by omega)
  have j2 : i64 1 := i64_n (by omega)
  have j3 : i64 2 := i64_n (by omega)
  have j4 : i64 4 := i64_n (by omega)
  have j5 : i64 0 := i64_n (by omega)
  have j6 : i64 (-1) := i64_n (by omega)
  have j7 : i64 5 := i64_n (by omega)
  have j8 : i64 (-2097152) := i64_n (by omega)
  obtain ⟨w0, w1, w2, w3⟩ := wk1
  repeat' (first | refine GW_seq ?_ | simp only [List.length_cons, List.length_nil, Nat.reduceAdd, Nat.reduceMul, wN] | ((first | refine GW_region' [] (by kernel_rfl) ?_ | refine GW_draw' [] follows (by kernel_rfl) (by kernel_rfl) ?_); intro Q hQ hP; simp [hC, hY, j0, j1, j2, j3, w0, w1, w2, w3]; (first | refine hQ _ _ _ _ ?_ | refine hQ _ _ _ _ (by kernel_rfl) ?_ | refine hP _ _ (fun _ => ?_) | refine hP _ _ (by kernel_rfl) (fun _ => ?_)); clear hQ hP Q) | refine GW_block ?_ | refine GW_ret ?_ | refine GW_skip ?_ | refine GW_exit ?_ | refine GW_goto ?_ | refine GW_label ?_ | simp only [blockG_exit] | (refine GW_cond (by simp; rfl) ?_ ?_ <;> (intro hb; first | (exfalso; exact absurd hb (by decide)) | skip)))
  have da := drift_at 328 368 (by omega) (by omega) (by omega) (wkB 1) 0 1 1 (wkL 1) (wkSB 1 j2) (Nat.le_refl _) 4 1 2 j4 j2 j3
  rw [wkE0] at da
  refine GW_list ?_
  simp only [Array.toList]
  refine GL_walk 1 [] rfl (by simp) (by kernel_rfl) ?_; intro q hq; simp [hC, hY]; refine hq _ _ _ _ ?_; clear hq q
  simp only [wT, List.length_cons, List.length_nil, Nat.reduceAdd]
  refine GL_callL (f := .func 21) (cap := #[]) hC da rfl (by simp) rfl rfl (by simp [okT]) (by simp [gev]) (by simp) (by simp [okX, junk]) (by simp [gev]) (by simp [wkB]) (by (intro k hk; first | rfl | (simp (disch := omega) only [addB, List.mem_cons, List.not_mem_nil, or_false, upd_other, hpL_cons, hpL_nil, if_neg, updL] <;> done))) ?_ ?_
  · intro v ns hV k hk
    rw [driftR_key hV k hk]
    omega
  rintro v ns ⟨w, ⟨ca, Ma, ga, k1a, k2a, k3a, rfl, rfl⟩, rfl⟩
  refine GL_walk 6 [] rfl (by simp) (by kernel_rfl) ?_; intro q hq; simp [hC, hY, putT, updL]; refine hq _ _ _ _ ?_; clear hq q
  simp only [wT, List.length_cons, List.length_nil, Nat.reduceAdd]
  refine GL_nil ?_
  repeat' (first | refine GW_seq ?_ | simp only [List.length_cons, List.length_nil, Nat.reduceAdd, Nat.reduceMul, wN] | ((first | refine GW_region' [] (by kernel_rfl) ?_ | refine GW_draw' [] follows (by kernel_rfl) (by kernel_rfl) ?_); intro Q hQ hP; simp [hC, hY]; (first | refine hQ _ _ _ _ ?_ | refine hQ _ _ _ _ (by kernel_rfl) ?_ | refine hP _ _ (fun _ => ?_) | refine hP _ _ (by kernel_rfl) (fun _ => ?_)); clear hQ hP Q) | refine GW_block ?_ | refine GW_ret ?_ | refine GW_skip ?_ | refine GW_exit ?_ | refine GW_goto ?_ | refine GW_label ?_ | simp only [blockG_exit] | (refine GW_cond (by simp; rfl) ?_ ?_ <;> (intro hb; first | (exfalso; exact absurd hb (by decide)) | skip)))
  have db := drift_at 328 432 (by omega) (by omega) (by omega) (wkB 1) 0 1 1 (wkL 1) (wkSB 1 j2) (Nat.le_refl _) 4 1 0 j4 j2 j5
  rw [wkE1] at db
  refine GW_list ?_
  simp only [Array.toList]
  refine GL_walk 1 [] rfl (by simp) (by kernel_rfl) ?_; intro q hq; simp [hC, hY]; refine hq _ _ _ _ ?_; clear hq q
  simp only [wT, List.length_cons, List.length_nil, Nat.reduceAdd]
  refine GL_callL (f := .func 21) (cap := #[]) hC db rfl (by simp) rfl rfl (by simp [okT]) (by simp [gev]) (by simp) (by simp [okX, junk]) (by simp [gev]) (by simp [wkB]) (by (intro k hk; first | rfl | (simp (disch := omega) only [addB, List.mem_cons, List.not_mem_nil, or_false, upd_other, hpL_cons, hpL_nil, if_neg, updL] <;> done))) ?_ ?_
  · intro v ns hV k hk
    rw [driftR_key hV k hk]
    omega
  rintro v ns ⟨w, ⟨cb, Mb, gb, k1b, k2b, k3b, rfl, rfl⟩, rfl⟩
  refine GL_walk 6 [] rfl (by simp) (by kernel_rfl) ?_; intro q hq; simp [hC, hY, putT, updL]; refine hq _ _ _ _ ?_; clear hq q
  simp only [wT, List.length_cons, List.length_nil, Nat.reduceAdd]
  refine GL_nil ?_
  repeat' (first | refine GW_seq ?_ | simp only [List.length_cons, List.length_nil, Nat.reduceAdd, Nat.reduceMul, wN] | ((first | refine GW_region' [] (by kernel_rfl) ?_ | refine GW_draw' [] follows (by kernel_rfl) (by kernel_rfl) ?_); intro Q hQ hP; simp [hC, hY]; (first | refine hQ _ _ _ _ ?_ | refine hQ _ _ _ _ (by kernel_rfl) ?_ | refine hP _ _ (fun _ => ?_) | refine hP _ _ (by kernel_rfl) (fun _ => ?_)); clear hQ hP Q) | refine GW_block ?_ | refine GW_ret ?_ | refine GW_skip ?_ | refine GW_exit ?_ | refine GW_goto ?_ | refine GW_label ?_ | simp only [blockG_exit] | (refine GW_cond (by simp; rfl) ?_ ?_ <;> (intro hb; first | (exfalso; exact absurd hb (by decide)) | skip)))
  have dc := drift_at 328 544 (by omega) (by omega) (by omega) (wkB 1048576) 0 1 1 (wkL 1048576) (wkSB 1048576 i64_box) (Nat.le_refl _) 4 1 2 j4 j2 j3
  rw [wkE2] at dc
  refine GW_list ?_
  simp only [Array.toList]
  refine GL_walk 1 [] rfl (by simp) (by kernel_rfl) ?_; intro q hq; simp [hC, hY]; refine hq _ _ _ _ ?_; clear hq q
  simp only [wT, List.length_cons, List.length_nil, Nat.reduceAdd]
  refine GL_callL (f := .func 21) (cap := #[]) hC dc rfl (by simp) rfl rfl (by simp [okT]) (by simp [gev]) (by simp) (by simp [okX, junk]) (by simp [gev]) (by simp [wkB]) (by (intro k hk; first | rfl | (simp (disch := omega) only [addB, List.mem_cons, List.not_mem_nil, or_false, upd_other, hpL_cons, hpL_nil, if_neg, updL] <;> done))) ?_ ?_
  · intro v ns hV k hk
    rw [driftR_key hV k hk]
    omega
  rintro v ns ⟨w, ⟨cc, Mc, gc, k1c, k2c, k3c, rfl, rfl⟩, rfl⟩
  refine GL_walk 6 [] rfl (by simp) (by kernel_rfl) ?_; intro q hq; simp [hC, hY, putT, updL]; refine hq _ _ _ _ ?_; clear hq q
  simp only [wT, List.length_cons, List.length_nil, Nat.reduceAdd]
  refine GL_nil ?_
  repeat' (first | refine GW_seq ?_ | simp only [List.length_cons, List.length_nil, Nat.reduceAdd, Nat.reduceMul, wN] | ((first | refine GW_region' [] (by kernel_rfl) ?_ | refine GW_draw' [] follows (by kernel_rfl) (by kernel_rfl) ?_); intro Q hQ hP; simp [hC, hY]; (first | refine hQ _ _ _ _ ?_ | refine hQ _ _ _ _ (by kernel_rfl) ?_ | refine hP _ _ (fun _ => ?_) | refine hP _ _ (by kernel_rfl) (fun _ => ?_)); clear hQ hP Q) | refine GW_block ?_ | refine GW_ret ?_ | refine GW_skip ?_ | refine GW_exit ?_ | refine GW_goto ?_ | refine GW_label ?_ | simp only [blockG_exit] | (refine GW_cond (by simp; rfl) ?_ ?_ <;> (intro hb; first | (exfalso; exact absurd hb (by decide)) | skip)))
  have dw := dWays_at 328 608 (by omega) (by omega) (by omega) (wkB 1048576) 0 1 1 (wkL 1048576) (wkSB 1048576 i64_box) 4 (-1) 5 j4 j6 j7
  rw [wkW] at dw
  refine GW_list ?_
  simp only [Array.toList]
  refine GL_walk 1 [] rfl (by simp) (by kernel_rfl) ?_; intro q hq; simp [hC, hY]; refine hq _ _ _ _ ?_; clear hq q
  simp only [wT, List.length_cons, List.length_nil, Nat.reduceAdd]
  refine GL_callL (f := .func 19) (cap := #[]) hC dw rfl (by simp) rfl rfl (by simp [okT]) (by simp [gev]) (by simp) (by simp [okX, junk]) (by simp [gev]) (by simp [wkB]) (by (intro k hk; first | rfl | (simp (disch := omega) only [addB, List.mem_cons, List.not_mem_nil, or_false, upd_other, hpL_cons, hpL_nil, if_neg, updL] <;> done))) ?_ ?_
  · rintro v ns ⟨w, hV, rfl⟩ k hk
    rw [vecR_key hV k hk]
    omega
  rintro v ns ⟨w, hV, rfl⟩
  rcases hV with ⟨h1, _⟩ | ⟨cd, gd, kd0, kd1, kd2, rfl, rfl⟩
  · simp at h1
  refine GL_walk 5 [] rfl (by simp) (by kernel_rfl) ?_; intro q hq; simp [hC, hY, putT, updL]; refine hq _ _ _ _ ?_; clear hq q
  simp only [wT, List.length_cons, List.length_nil, Nat.reduceAdd]
  refine GL_nil ?_
  have e0 : ga 0 = 4 := (k3a 0 (by omega)).trans wkF0.1
  have e1 : ga 1 = -1 := (k3a 1 (by omega)).trans wkF0.2.1
  have e2 : ga 2 = 3 := (k3a 2 (by omega)).trans wkF0.2.2
  have x0 : gd 0 = -1 := (kd2 0 (by simp)).trans wkG.1
  have x1 : gd 1 = 1 := (kd2 1 (by simp)).trans wkG.2.1
  have x2 : gd 2 = 0 := (kd2 2 (by simp)).trans wkG.2.2
  have l0 : loadK Tryd.prog 26 ⟨fa Ma .i64 ga, .ty 44⟩ 0 = some (.agg #[.int .i64 4, .int .i64 (-1), .int .i64 3]) := by
    have := loadK_rd (P := Tryd.prog) (T := 26) (m := 3) (j := 0) (tyAgg_of Tryd.isAgg26) (tySize_of Tryd.sizeOf26) (by omega) (rdI_fa Ma ga (.ty 44)) (by omega)
    rw [fa_3] at this
    simpa [e0, e1, e2] using this
  have l1 : loadK Tryd.prog 26 ⟨fa (3 * cd) .i64 gd, .ty 26⟩ 0 = some (.agg #[.int .i64 (-1), .int .i64 1, .int .i64 0]) := by
    have := loadK_rd (P := Tryd.prog) (T := 26) (m := 3) (j := 0) (tyAgg_of Tryd.isAgg26) (tySize_of Tryd.sizeOf26) (by omega) (rdI_fa (3 * cd) gd (.ty 26)) (by simp at kd1; omega)
    rw [fa_3] at this
    simpa [x0, x1, x2] using this
  repeat' (first | refine GW_seq ?_ | simp only [List.length_cons, List.length_nil, Nat.reduceAdd, Nat.reduceMul, wN] | ((first | refine GW_region' [] (by kernel_rfl) ?_ | refine GW_draw' [] follows (by kernel_rfl) (by kernel_rfl) ?_); intro Q hQ hP; simp [hC, hY, l0, l1, j2, j8, wkP.1, wkP.2]; (first | refine hQ _ _ _ _ ?_ | refine hQ _ _ _ _ (by kernel_rfl) ?_ | refine hP _ _ (fun _ => ?_) | refine hP _ _ (by kernel_rfl) (fun _ => ?_)); clear hQ hP Q) | refine GW_block ?_ | refine GW_ret ?_ | refine GW_skip ?_ | refine GW_exit ?_ | refine GW_goto ?_ | refine GW_label ?_ | simp only [blockG_exit] | (refine GW_cond (by simp; rfl) ?_ ?_ <;> (intro hb; first | (exfalso; exact absurd hb (by decide)) | skip)))
  refine ⟨.inr trivial, ?_⟩
  simp [Tryd.results12]
@[simp] theorem wakes15 (K : Value → Prop) : callK Tryd.prog G0 12 #[] K ↔ K (.bool true) := callK_iff G0W (by kernel_rfl) wakes15_ret
end Go.Gy
namespace Go.Gy
set_option linter.unusedSimpArgs false
set_option linter.unusedVariables false
open Go Go.RowKit Go.Proofs
/-! Vecs -/
theorem vecs_nil : Ret Tryd.prog G0 23 #[.slice none 0 0, .slice none 0 0] (.bool true) := by
  refine ret_of G0F Tryd.func23 rfl Tryd.call23 rfl (by simp) (by simp [Tryd.ntmps23]) ?_
  intro C hC hC0 hY
  repeat' (first | refine GW_seq ?_ | refine GWL_start ?_ | refine GWL_step ?_ | simp only [List.length_cons, List.length_nil, Nat.reduceAdd, Nat.reduceMul, wN] | ((first | refine GW_region' [] (by kernel_rfl) ?_ | refine GW_draw' [] follows (by kernel_rfl) (by kernel_rfl) ?_); intro Q hQ hP; simp [hC, hY]; (first | refine hQ _ _ _ _ ?_ | refine hQ _ _ _ _ (by kernel_rfl) ?_ | refine hP _ _ (fun _ => ?_) | refine hP _ _ (by kernel_rfl) (fun _ => ?_)); clear hQ hP Q) | refine GW_block ?_ | refine GW_ret ?_ | refine GW_skip ?_ | refine GW_exit ?_ | refine GW_goto ?_ | refine GW_label ?_ | simp only [blockG_exit] | (refine GW_cond (by simp; rfl) ?_ ?_ <;> (intro hb; first | (exfalso; exact absurd hb (by decide)) | skip)))
  refine ⟨.inr trivial, ?_⟩
  simp [Tryd.results23]
@[simp] theorem vecsN (K : Value → Prop) : callK Tryd.prog G0 23 #[.slice none 0 0, .slice none 0 0] K ↔ K (.bool true) := callK_iff G0W (by kernel_rfl) vecs_nil
def vcL (c c' : Nat) (g g' : Nat → Int) : List (Nat × Blk) := [(100, ⟨fa (3 * c) .i64 g, .ty 26⟩), (108, ⟨fa (3 * c') .i64 g', .ty 26⟩)]
theorem vcL_ok (c c' : Nat) (g g' : Nat → Int) : LOk (vcL c c' g g') 200 := ⟨by simp [vcL], by simp [vcL, keys], by
  simp only [vcL, List.mem_cons, List.not_mem_nil, or_false, forall_eq_or_imp, forall_eq]
  exact ⟨Blk.fx_ids (fa_fx _ _ _) _, Blk.fx_ids (fa_fx _ _ _) _⟩⟩
theorem vec_ld {c n : Nat} {g : Nat → Int} (hc : n ≤ c) {i : Nat} (hi : i < n) : loadK Tryd.prog 26 ⟨fa (3 * c) .i64 g, .ty 26⟩ (i * 3) = some (.agg #[.int .i64 (g (3 * i)), .int .i64 (g (3 * i + 1)), .int .i64 (g (3 * i + 2))]) := by
  have := loadK_rd (P := Tryd.prog) (T := 26) (m := 3) (j := 3 * i) (tyAgg_of Tryd.isAgg26) (tySize_of Tryd.sizeOf26) (by omega) (rdI_fa (3 * c) g (.ty 26)) (by omega)
  rw [show i * 3 = 0 + 3 * i by omega, this, fa_3]
  rfl
theorem vec_ld1 {c n : Nat} {g : Nat → Int} (hc : n ≤ c) {i : Nat} (hi : i < n) {u : Nat} (hu : u < 3) : loadK Tryd.prog 3 ⟨fa (3 * c) .i64 g, .ty 26⟩ (i * 3 + u) = some (.int .i64 (g (3 * i + u))) := by
  have := loadK_rd1 (P := Tryd.prog) (T := 3) (j := 3 * i + u) (tyAgg_of Tryd.isAgg3) (rdI_fa (3 * c) g (.ty 26)) (by omega)
  rw [show i * 3 + u = 0 + (3 * i + u) by omega, this]
def vcSt (n c c' : Nat) (g g' : Nat → Int) (i : Nat) : GS :=
  ⟨tsL [(0, .slice (some ⟨100, 0, none⟩) n c), (1, .slice (some ⟨108, 0, none⟩) n c'), (5, .int .i64 i)], hpL G0 (vcL c c' g g'), 400, 0⟩
theorem vecs_fun (n c c' : Nat) (g g' : Nat → Int) (hn : n ≤ 2932031007402) (hc : n ≤ c) (hc' : n ≤ c') (hg : ∀ j, j < 3 * n → g j = g' j) :
    Fun Tryd.prog G0 23 #[.slice (some ⟨100, 0, none⟩) n c, .slice (some ⟨108, 0, none⟩) n c'] (hpL G0 (vcL c c' g g')) (keys (vcL c c' g g')) (.ret (.bool true) []) := by
  refine fun_ofL (B := 200) G0F Tryd.func23 rfl Tryd.call23 (vcL_ok c c' g g') ?_ (by simp) (by simp) (by simp) (by simp [Tryd.ntmps23]) (by omega) ?_
  · simp [idsV, idsA, idsF, ids0, keys, vcL]
  intro C hC hC0 hY
  have hid := fun c g D => Blk.fx_ids (fa_fx (3 * c) g 26) D
  unfold vcL at hC0 ⊢
  repeat' (first | refine GW_seq ?_ | simp only [List.length_cons, List.length_nil, Nat.reduceAdd, Nat.reduceMul, wN] | ((first | refine GW_region' [] (by kernel_rfl) ?_ | refine GW_draw' [] follows (by kernel_rfl) (by kernel_rfl) ?_); intro Q hQ hP; simp [hC, hY]; (first | refine hQ _ _ _ _ ?_ | refine hQ _ _ _ _ (by kernel_rfl) ?_ | refine hP _ _ (fun _ => ?_) | refine hP _ _ (by kernel_rfl) (fun _ => ?_)); clear hQ hP Q) | refine GW_block ?_ | refine GW_ret ?_ | refine GW_skip ?_ | refine GW_exit ?_ | refine GW_goto ?_ | refine GW_label ?_ | simp only [blockG_exit] | (refine GW_cond (by simp; rfl) ?_ ?_ <;> (intro hb; first | (exfalso; exact absurd hb (by decide)) | skip)))
  refine GW_for n (vcSt n c c' g g') ?_ ?_ ?_
  · refine weakL _ 400 hC G0F (m0 := [(100, _), (108, _)]) hC0 (by omega) ?_ ?_ ?_
    · simp [idsV, idsA, idsF, ids0, dom, vcL]
    · simp [ids_lit, idsF, ids0, hid, vcL]
    · simp [vcL]
  · intro i hi
    have hi' : (i : Int) < n := by omega
    have hz : (0 : Int) ≤ i := by omega
    have hs : Int.bmod ((i : Int) + 1) 18446744073709551616 = ((i + 1 : Nat) : Int) := by rw [bm (by omega) (by omega)]; rfl
    have hld := vec_ld (g := g) hc hi
    have hld' := vec_ld (g := g') hc' hi
    rw [← hg _ (by omega), ← hg _ (by omega), ← hg _ (by omega)] at hld'
    unfold vcSt vcL
    repeat' (first | refine GW_seq ?_ | simp only [List.length_cons, List.length_nil, Nat.reduceAdd, Nat.reduceMul, wN] | ((first | refine GW_region' [] (by kernel_rfl) ?_ | refine GW_draw' [] follows (by kernel_rfl) (by kernel_rfl) ?_); intro Q hQ hP; simp [hC, hY, hi, hi', hz, hs, hld, hld']; (first | refine hQ _ _ _ _ ?_ | refine hQ _ _ _ _ (by kernel_rfl) ?_ | refine hP _ _ (fun _ => ?_) | refine hP _ _ (by kernel_rfl) (fun _ => ?_)); clear hQ hP Q) | refine GW_block ?_ | refine GW_ret ?_ | refine GW_skip ?_ | refine GW_exit ?_ | refine GW_goto ?_ | refine GW_label ?_ | simp only [blockG_exit] | (refine GW_cond (by simp; rfl) ?_ ?_ <;> (intro hb; first | (exfalso; exact absurd hb (by decide)) | skip)))
    refine weakL _ 400 hC G0F (m0 := [(100, _), (108, _)]) hC0 (by omega) ?_ ?_ ?_
    · simp [idsV, idsA, idsF, ids0, dom, hs]
    · simp [ids_lit, idsF, ids0, hid]
    · simp
  · unfold vcSt vcL
    repeat' (first | refine GW_seq ?_ | simp only [List.length_cons, List.length_nil, Nat.reduceAdd, Nat.reduceMul, wN] | ((first | refine GW_region' [] (by kernel_rfl) ?_ | refine GW_draw' [] follows (by kernel_rfl) (by kernel_rfl) ?_); intro Q hQ hP; simp [hC, hY]; (first | refine hQ _ _ _ _ ?_ | refine hQ _ _ _ _ (by kernel_rfl) ?_ | refine hP _ _ (fun _ => ?_) | refine hP _ _ (by kernel_rfl) (fun _ => ?_)); clear hQ hP Q) | refine GW_block ?_ | refine GW_ret ?_ | refine GW_skip ?_ | refine GW_exit ?_ | refine GW_goto ?_ | refine GW_label ?_ | simp only [blockG_exit] | (refine GW_cond (by simp; rfl) ?_ ?_ <;> (intro hb; first | (exfalso; exact absurd hb (by decide)) | skip)))
    refine ⟨.inr rfl, by simp [Tryd.results23], keep_of G0F (by simp) (by (intro k hk; first | rfl | (simp (disch := omega) only [addB, List.mem_cons, List.not_mem_nil, or_false, upd_other, hpL_cons, hpL_nil, if_neg, updL] <;> done)))⟩
end Go.Gy
namespace Go.Gy
set_option linter.unusedSimpArgs false
set_option linter.unusedVariables false
open Go Go.RowKit Go.Proofs
/-- Body i is the same. -/
def eqB (f g : Nat → Int) (i : Nat) : Bool := f (6 * i) == g (6 * i) && (f (6 * i + 1) == g (6 * i + 1) && (f (6 * i + 2) == g (6 * i + 2) && (f (6 * i + 3) == g (6 * i + 3) && (f (6 * i + 4) == g (6 * i + 4) && f (6 * i + 5) == g (6 * i + 5)))))
def sameB (st st' : Int) (n n' : Nat) (f g : Nat → Int) : Bool := st == st' && (n == n' && (List.range n).all (eqB f g))
theorem eqB_iff {f g : Nat → Int} {i : Nat} : eqB f g i = true ↔ ∀ u, u < 6 → f (6 * i + u) = g (6 * i + u) := by
  unfold eqB
  simp only [Bool.and_eq_true, beq_iff_eq]
  constructor
  · rintro ⟨h0, h1, h2, h3, h4, h5⟩ u hu
    obtain rfl | rfl | rfl | rfl | rfl | rfl : u = 0 ∨ u = 1 ∨ u = 2 ∨ u = 3 ∨ u = 4 ∨ u = 5 := by omega
    · exact h0
    · exact h1
    · exact h2
    · exact h3
    · exact h4
    · exact h5
  · intro h
    exact ⟨h 0 (by omega), h 1 (by omega), h 2 (by omega), h 3 (by omega), h 4 (by omega), h 5 (by omega)⟩
theorem allE_iff {f g : Nat → Int} {n : Nat} : (List.range n).all (eqB f g) = true ↔ ∀ j, j < 6 * n → f j = g j := by
  simp only [List.all_eq_true, List.mem_range, eqB_iff]
  constructor
  · intro h j hj
    have := h (j / 6) (by omega) (j % 6) (by omega)
    rwa [show 6 * (j / 6) + j % 6 = j by omega] at this
  · intro h i hi u hu
    exact h _ (by omega)
theorem sameB_iff {st st' : Int} {n n' : Nat} {f g : Nat → Int} : sameB st st' n n' f g = true ↔ st = st' ∧ n = n' ∧ ∀ j, j < 6 * n → f j = g j := by
  unfold sameB
  rw [Bool.and_eq_true, Bool.and_eq_true, allE_iff, beq_iff_eq, beq_iff_eq]
theorem six_ne : ∀ a b c d e f : Bool, (a && (b && (c && (d && (e && f))))) = false → ((!a || (!b || !c)) || (!d || (!e || !f))) = true := by decide
def smL (b b' : Blk) : List (Nat × Blk) := [(100, b), (108, b')]
theorem smL_ok {b b' : Blk} (hb : b.fx) (hb' : b'.fx) : LOk (smL b b') 200 := ⟨by simp [smL], by simp [smL, keys], by
  simp only [smL, List.mem_cons, List.not_mem_nil, or_false, forall_eq_or_imp, forall_eq]
  exact ⟨Blk.fx_ids hb _, Blk.fx_ids hb' _⟩⟩
def smSt (b b' : Blk) (st st' : Int) (off off' n n' cap cap' i : Nat) : GS :=
  ⟨tsL [(2, .pointer (some ⟨200, 0, none⟩)), (3, .pointer (some ⟨208, 0, none⟩)), (5, .int .i64 i)], hpL G0 [(100, b), (108, b'), (200, ⟨#[.int .i64 st, .slice (some ⟨100, off, none⟩) n cap], .ty 24⟩), (208, ⟨#[.int .i64 st', .slice (some ⟨108, off', none⟩) n' cap'], .ty 24⟩)], 400, 0⟩
set_option maxRecDepth 8000 in
set_option maxHeartbeats 4000000 in
theorem same_fun (b b' : Blk) (off off' n n' cap cap' : Nat) (f g : Nat → Int) (h : SB b off n f) (h' : SB b' off' n' g) (st st' : Int) :
    Fun Tryd.prog G0 24 #[.agg #[.int .i64 st, .slice (some ⟨100, off, none⟩) n cap], .agg #[.int .i64 st', .slice (some ⟨108, off', none⟩) n' cap']] (hpL G0 (smL b b')) (keys (smL b b')) (.ret (.bool (sameB st st' n n' f g)) []) := by
  refine fun_ofL (B := 200) G0F Tryd.func24 rfl Tryd.call24 (smL_ok h.fx h'.fx) ?_ (by simp) (by simp) (by simp) (by simp [Tryd.ntmps24]) (by omega) ?_
  · simp [idsV, idsA, idsF, ids0, keys, smL]
  intro C hC hC0 hY
  have hnn := h.nn
  have hid := fun D => Blk.fx_ids h.fx D
  have hid' := fun D => Blk.fx_ids h'.fx D
  unfold smL at hC0 ⊢
  by_cases cs : st = st'
  · by_cases cn : n = n'
    · subst cs cn
      obtain ⟨N, hN, hlt, hend⟩ := leadB (eqB f g) n
      have hval : sameB st st n n f g = decide (N = n) := by
        unfold sameB
        simp only [beq_self_eq_true, Bool.true_and]
        by_cases hNn : N = n
        · subst hNn
          rw [decide_eq_true rfl]
          simpa using hlt
        · rw [decide_eq_false hNn]
          cases hb : (List.range n).all (eqB f g) with
          | false => rfl
          | true =>
            have := List.all_eq_true.1 hb N (by simp; omega)
            rw [hend.resolve_left hNn] at this
            cases this
      rw [hval]
      repeat' (first | refine GW_seq ?_ | simp only [List.length_cons, List.length_nil, Nat.reduceAdd, Nat.reduceMul, wN] | ((first | refine GW_region' [] (by kernel_rfl) ?_ | refine GW_draw' [] follows (by kernel_rfl) (by kernel_rfl) ?_); intro Q hQ hP; simp [hC, hY]; (first | refine hQ _ _ _ _ ?_ | refine hQ _ _ _ _ (by kernel_rfl) ?_ | refine hP _ _ (fun _ => ?_) | refine hP _ _ (by kernel_rfl) (fun _ => ?_)); clear hQ hP Q) | refine GW_block ?_ | refine GW_ret ?_ | refine GW_skip ?_ | refine GW_exit ?_ | refine GW_goto ?_ | refine GW_label ?_ | simp only [blockG_exit] | (refine GW_cond (by simp; rfl) ?_ ?_ <;> (intro hb; first | (exfalso; exact absurd hb (by decide)) | skip)))
      refine GW_for N (smSt b b' st st off off' n n cap cap') ?_ ?_ ?_
      · refine weakL _ 400 hC G0F (m0 := [(100, b), (108, b')]) hC0 (by omega) ?_ ?_ ?_
        · simp [idsV, idsA, idsF, ids0, dom]
        · simp [ids_lit, idsF, ids0, hid, hid', dom]
        · simp
      · intro i hi
        have hin : i < n := by omega
        have hi' : (i : Int) < n := by omega
        have hz : (0 : Int) ≤ i := by omega
        have hs : Int.bmod ((i : Int) + 1) 18446744073709551616 = ((i + 1 : Nat) : Int) := by rw [bm (by omega) (by omega)]; rfl
        have hld := h.body hin
        have hld' := h'.body hin
        have he := eqB_iff.1 (hlt i hi)
        have e0 := he 0 (by omega)
        have e1 := he 1 (by omega)
        have e2 := he 2 (by omega)
        have e3 := he 3 (by omega)
        have e4 := he 4 (by omega)
        have e5 := he 5 (by omega)
        simp only [Nat.add_zero] at e0
        unfold smSt
        repeat' (first | refine GW_seq ?_ | simp only [List.length_cons, List.length_nil, Nat.reduceAdd, Nat.reduceMul, wN] | ((first | refine GW_region' [] (by kernel_rfl) ?_ | refine GW_draw' [] follows (by kernel_rfl) (by kernel_rfl) ?_); intro Q hQ hP; simp [hC, hY, hi, hin, hi', hz, hs, hld, hld', e0, e1, e2, e3, e4, e5]; (first | refine hQ _ _ _ _ ?_ | refine hQ _ _ _ _ (by kernel_rfl) ?_ | refine hP _ _ (fun _ => ?_) | refine hP _ _ (by kernel_rfl) (fun _ => ?_)); clear hQ hP Q) | refine GW_block ?_ | refine GW_ret ?_ | refine GW_skip ?_ | refine GW_exit ?_ | refine GW_goto ?_ | refine GW_label ?_ | simp only [blockG_exit] | (refine GW_cond (by simp; rfl) ?_ ?_ <;> (intro hb; first | (exfalso; exact absurd hb (by decide)) | skip)))
        refine weakL _ 400 hC G0F (m0 := [(100, b), (108, b')]) hC0 (by omega) ?_ ?_ ?_
        · simp [idsV, idsA, idsF, ids0, dom, hs]
        · simp [ids_lit, idsF, ids0, hid, hid', dom]
        · simp
      · by_cases hNn : N = n
        · rw [decide_eq_true hNn]
          subst hNn
          unfold smSt
          repeat' (first | refine GW_seq ?_ | simp only [List.length_cons, List.length_nil, Nat.reduceAdd, Nat.reduceMul, wN] | ((first | refine GW_region' [] (by kernel_rfl) ?_ | refine GW_draw' [] follows (by kernel_rfl) (by kernel_rfl) ?_); intro Q hQ hP; simp [hC, hY]; (first | refine hQ _ _ _ _ ?_ | refine hQ _ _ _ _ (by kernel_rfl) ?_ | refine hP _ _ (fun _ => ?_) | refine hP _ _ (by kernel_rfl) (fun _ => ?_)); clear hQ hP Q) | refine GW_block ?_ | refine GW_ret ?_ | refine GW_skip ?_ | refine GW_exit ?_ | refine GW_goto ?_ | refine GW_label ?_ | simp only [blockG_exit] | (refine GW_cond (by simp; rfl) ?_ ?_ <;> (intro hb; first | (exfalso; exact absurd hb (by decide)) | skip)))
          refine ⟨.inr rfl, by simp [Tryd.results24], keep_of G0F (by simp) (by (intro k hk; first | rfl | (simp (disch := omega) only [addB, List.mem_cons, List.not_mem_nil, or_false, upd_other, hpL_cons, hpL_nil, if_neg, updL] <;> done)))⟩
        · rw [decide_eq_false hNn]
          have hin : N < n := by omega
          have hi' : (N : Int) < n := by omega
          have hz : (0 : Int) ≤ N := by omega
          have hld := h.body hin
          have hld' := h'.body hin
          have hne := hend.resolve_left hNn
          unfold eqB at hne
          replace hne := six_ne _ _ _ _ _ _ hne
          unfold smSt
          repeat' (first | refine GW_seq ?_ | simp only [List.length_cons, List.length_nil, Nat.reduceAdd, Nat.reduceMul, wN] | ((first | refine GW_region' [] (by kernel_rfl) ?_ | refine GW_draw' [] follows (by kernel_rfl) (by kernel_rfl) ?_); intro Q hQ hP; simp [hC, hY, hin, hi', hz, hld, hld', hne]; (first | refine hQ _ _ _ _ ?_ | refine hQ _ _ _ _ (by kernel_rfl) ?_ | refine hP _ _ (fun _ => ?_) | refine hP _ _ (by kernel_rfl) (fun _ => ?_)); clear hQ hP Q) | refine GW_block ?_ | refine GW_ret ?_ | refine GW_skip ?_ | refine GW_exit ?_ | refine GW_goto ?_ | refine GW_label ?_ | simp only [blockG_exit] | (refine GW_cond (by simp; rfl) ?_ ?_ <;> (intro hb; first | (exfalso; exact absurd hb (by decide)) | skip)))
          refine ⟨.inr rfl, by simp [Tryd.results24], keep_of G0F (by simp) (by (intro k hk; first | rfl | (simp (disch := omega) only [addB, List.mem_cons, List.not_mem_nil, or_false, upd_other, hpL_cons, hpL_nil, if_neg, updL] <;> done)))⟩
    · have hval : sameB st st' n n' f g = false := by
        unfold sameB
        rw [show (n == n') = false by simpa using cn]
        simp
      rw [hval]
      subst cs
      have cn' : ((n : Int) == (n' : Int)) = false := by simp; omega
      have cn2 : (n == n') = false := by simpa using cn
      have cn3 : ((n : Int) != (n' : Int)) = true := by unfold bne; rw [cn']; rfl
      repeat' (first | refine GW_seq ?_ | simp only [List.length_cons, List.length_nil, Nat.reduceAdd, Nat.reduceMul, wN] | ((first | refine GW_region' [] (by kernel_rfl) ?_ | refine GW_draw' [] follows (by kernel_rfl) (by kernel_rfl) ?_); intro Q hQ hP; simp [hC, hY, cn, cn', cn2, cn3]; (first | refine hQ _ _ _ _ ?_ | refine hQ _ _ _ _ (by kernel_rfl) ?_ | refine hP _ _ (fun _ => ?_) | refine hP _ _ (by kernel_rfl) (fun _ => ?_)); clear hQ hP Q) | refine GW_block ?_ | refine GW_ret ?_ | refine GW_skip ?_ | refine GW_exit ?_ | refine GW_goto ?_ | refine GW_label ?_ | simp only [blockG_exit] | (refine GW_cond (by simp; rfl) ?_ ?_ <;> (intro hb; first | (exfalso; exact absurd hb (by decide)) | skip)))
      refine ⟨.inr rfl, by simp [Tryd.results24], keep_of G0F (by simp) (by (intro k hk; first | rfl | (simp (disch := omega) only [addB, List.mem_cons, List.not_mem_nil, or_false, upd_other, hpL_cons, hpL_nil, if_neg, updL] <;> done)))⟩
  · have hval : sameB st st' n n' f g = false := by
      unfold sameB
      rw [show (st == st') = false by simpa using cs]
      simp
    rw [hval]
    have cs' : (st == st') = false := by simpa using cs
    have cs2 : (st != st') = true := by unfold bne; rw [cs']; rfl
    repeat' (first | refine GW_seq ?_ | simp only [List.length_cons, List.length_nil, Nat.reduceAdd, Nat.reduceMul, wN] | ((first | refine GW_region' [] (by kernel_rfl) ?_ | refine GW_draw' [] follows (by kernel_rfl) (by kernel_rfl) ?_); intro Q hQ hP; simp [hC, hY, cs, cs', cs2]; (first | refine hQ _ _ _ _ ?_ | refine hQ _ _ _ _ (by kernel_rfl) ?_ | refine hP _ _ (fun _ => ?_) | refine hP _ _ (by kernel_rfl) (fun _ => ?_)); clear hQ hP Q) | refine GW_block ?_ | refine GW_ret ?_ | refine GW_skip ?_ | refine GW_exit ?_ | refine GW_goto ?_ | refine GW_label ?_ | simp only [blockG_exit] | (refine GW_cond (by simp; rfl) ?_ ?_ <;> (intro hb; first | (exfalso; exact absurd hb (by decide)) | skip)))
    refine ⟨.inr rfl, by simp [Tryd.results24], keep_of G0F (by simp) (by (intro k hk; first | rfl | (simp (disch := omega) only [addB, List.mem_cons, List.not_mem_nil, or_false, upd_other, hpL_cons, hpL_nil, if_neg, updL] <;> done)))⟩
end Go.Gy
namespace Go.Gy
set_option linter.unusedSimpArgs false
set_option linter.unusedVariables false
open Go Go.RowKit Go.Proofs
/-! a body by itself -/
def bodyF (f : Nat → Int) (i : Nat) : Nat → Int := fun j => f (6 * i + j)
theorem one_dwE (f : Nat → Int) (p q : Int) (i : Nat) : dwE (bodyF f i) p q 0 = dwE f p q i := by unfold dwE bodyF; rfl
theorem one_dwV (f : Nat → Int) (p q : Int) (i u : Nat) : dwV (bodyF f i) p q 0 u = dwV f p q i u := by
  unfold dwV
  rw [one_dwE]
  unfold bodyF
  rw [show 6 * i + (6 * 0 + 3 + u) = 6 * i + 3 + u by omega]
theorem one_ok (f : Nat → Int) (p q : Int) (i : Nat) : okB (bodyF f i) p q 0 = okB f p q i := by
  unfold okB
  rw [one_dwV, one_dwV, one_dwV]
  rfl
theorem one_right {st : Int} {f : Nat → Int} {n i : Nat} (h : rightB st f n = true) (hi : i < n) : rightB st (bodyF f i) 1 = true := by
  obtain ⟨h1, h2, h3⟩ := right_n h
  unfold rightB stB
  rw [decide_eq_true h1, decide_eq_true (by omega : 1 ≤ 1 ∧ 1 ≤ 4), Bool.true_and, Bool.true_and, allB_iff]
  intro j hj
  obtain rfl : j = 0 := by omega
  have := h3 i hi
  unfold inB at this ⊢
  unfold bodyF
  exact this
theorem one_mv (f : Nat → Int) (p q : Int) (i u : Nat) (hu : u < 6) : mvF (bodyF f i) p q u = mvF f p q (6 * i + u) := by
  unfold mvF
  rw [show (6 * i + u) % 6 = u % 6 by omega, show (6 * i + u) / 6 = i by omega, show u / 6 = 0 by omega, one_dwV]
  rfl
theorem drE_0 {st : Int} {f : Nat → Int} {n : Nat} {p q : Int} (h : rightB st f n = true) (hp : partB p q = true) : drE st f n p q = 0 ∧ (∀ i, i < n → okB f p q i = true) ∨ drE st f n p q = 20 := by
  unfold drE
  rw [h, hp]
  simp only [Bool.and_self, if_true]
  by_cases c : drOk f p q n = true
  · rw [if_pos c]; exact .inl ⟨rfl, drOk_iff.1 c⟩
  · rw [if_neg c]; exact .inr rfl
theorem drE_ok {st : Int} {f : Nat → Int} {n : Nat} {p q : Int} (h : rightB st f n = true) (hp : partB p q = true) (hk : ∀ i, i < n → okB f p q i = true) : drE st f n p q = 0 := by
  unfold drE
  rw [h, hp, drOk_iff.2 hk]
  rfl
/-! nothing to go -/
theorem nearQ_0 {d : Int} (h : 0 < d) : nearQ 0 d = 0 := by
  have := nearQ_self (v := 0) h
  rwa [Int.zero_mul] at this
theorem part_0 {p q : Int} (h : partB p q = true) : partB 0 q = true := by
  have := partB_t h
  unfold partB
  exact decide_eq_true (by omega)
theorem zero_dwV {st : Int} {f : Nat → Int} {n : Nat} {p q : Int} (h : rightB st f n = true) (hp : partB p q = true) {i : Nat} (hi : i < n) {u : Nat} (hu : u < 3) : dwV f 0 q i u = 0 := by
  rw [right_dwV h (part_0 hp) hi hu, Int.mul_zero]
  exact nearQ_0 (by have := partB_t hp; omega)
theorem zero_ok {st : Int} {f : Nat → Int} {n : Nat} {p q : Int} (h : rightB st f n = true) (hp : partB p q = true) {i : Nat} (hi : i < n) : okB f 0 q i = true := by
  unfold okB
  rw [zero_dwV h hp hi (by omega), zero_dwV h hp hi (by omega), zero_dwV h hp hi (by omega), Int.add_zero, Int.add_zero, Int.add_zero]
  exact inV_iff.2 (right_b h hi).1
theorem zero_E {st : Int} {f : Nat → Int} {n : Nat} {p q : Int} (h : rightB st f n = true) (hp : partB p q = true) : drE st f n 0 q = 0 := drE_ok h (part_0 hp) fun i hi => zero_ok h hp hi
theorem zero_F {st : Int} {f : Nat → Int} {n : Nat} {p q : Int} (h : rightB st f n = true) (hp : partB p q = true) {j : Nat} (hj : j < 6 * n) : drF st f n 0 q j = f j := by
  unfold drF
  rw [if_pos (zero_E h hp)]
  unfold mvF
  split
  · rw [zero_dwV h hp (i := j / 6) (by omega) (by omega), Int.add_zero]
  · rfl
theorem drF_0 {st : Int} {f : Nat → Int} {n : Nat} {p q : Int} (h : drE st f n p q = 0) : drF st f n p q = mvF f p q := by unfold drF; rw [if_pos h]
theorem vecsG_at (f : Nat → Int) (p q : Int) (i u : Nat) (hu : u < 3) : vecsG f p q (3 * i + u) = dwV f p q i u := by
  unfold vecsG
  rw [show (3 * i + u) / 3 = i by omega, show (3 * i + u) % 3 = u by omega]
/-- Which body. -/
theorem at_i {n : Nat} {a : Int} (ha : i64 a) (h1 : 1 ≤ n) (h4 : n ≤ 4) : ∃ i : Nat, i < n ∧ Int.bmod (a.tmod n + n) 18446744073709551616 = a.tmod n + n ∧ (a.tmod n + n).tmod n = (i : Int) := by
  have b1 := Int.tmod_lt_of_pos a (b := (n : Int)) (by omega)
  have b2 : -(n : Int) < a.tmod n := Int.lt_tmod_of_pos a (by omega)
  have b3 : 0 ≤ (a.tmod n + n).tmod n := Int.tmod_nonneg _ (by omega)
  have b4 := Int.tmod_lt_of_pos (a.tmod n + n) (b := (n : Int)) (by omega)
  exact ⟨((a.tmod n + n).tmod n).toNat, by omega, bm (by omega) (by omega), by omega⟩
end Go.Gy
namespace Go.Gy
set_option linter.unusedSimpArgs false
set_option linter.unusedVariables false
open Go Go.RowKit Go.Proofs
theorem ways15_at (nb nk : Nat) (hb1 : 100 ≤ nb) (hk1 : 100 ≤ nk) (hbk : nb ≠ nk) (b : Blk) (off n cap : Nat) (f : Nat → Int) (h : SB b off n f) (st p q : Int) (hp : i64 p) (hq : i64 q) :
    FunS Tryd.prog G0 20 #[.agg #[.int .i64 st, .slice (some ⟨nb, off, none⟩) n cap], .int .i64 p, .int .i64 q] (hpL G0 [(nb, b)]) [nb] (WaysR nk n (vecsG f p q) (rightB st f n && partB p q)) := by
  have hr := fun ρ => Blk.fx_rn h.fx ρ
  refine (ways15_fun b off n cap f h st p q hp hq).mvL G0F (oneL_ok h.fx) (nn2 nb nk) nn2_low (by simp [ren, renA, renF, ren0, nn2_b]) (by simp [keys, nn2_b]) (waysR_rr nn2_k) (at_low hb1) (by simp [nn2_b, hr, hb1]) (by simp [keys]) (fun v ns hV k hk => ?_) (fun v ns hV k hk l hl _ => ?_)
  · obtain ⟨w, hV, rfl⟩ := hV
    rw [vecR_key hV k hk, nn2_k]
    simp
    exact ⟨hk1, fun e => hbk e.symm⟩
  · obtain ⟨w, hV, rfl⟩ := hV
    rw [vecR_key hV k hk, vecR_key hV l hl]
/-- The row behind a store. -/
theorem put_row' {M n : Nat} {g f : Nat → Int} {p q : Int} (hM : 6 * n ≤ M) {i : Nat} (hi : i < n) :
    (((fa M IntKind.i64 (mvG g f p q i)).setIfInBounds (i * 6) (Value.int IntKind.i64 (f (6 * i) + dwV f p q i 0))).setIfInBounds (i * 6 + 1) (Value.int IntKind.i64 (f (6 * i + 1) + dwV f p q i 1))).setIfInBounds (i * 6 + 1 + 1) (Value.int IntKind.i64 (f (6 * i + 2) + dwV f p q i 2)) = fa M IntKind.i64 (mvG g f p q (i + 1)) := put_row hM hi
theorem row_vec' {M n : Nat} {g f : Nat → Int} {p q : Int} (hM : 6 * n ≤ M) {i : Nat} (hi : i < n) : loadK Tryd.prog 26 ⟨fa M .i64 (mvG g f p q (i + 1)), .ty 44⟩ (i * 6) = some (.agg #[.int .i64 (f (6 * i) + dwV f p q i 0), .int .i64 (f (6 * i + 1) + dwV f p q i 1), .int .i64 (f (6 * i + 2) + dwV f p q i 2)]) := by
  have := loadK_rd (P := Tryd.prog) (T := 26) (m := 3) (j := 6 * i) (tyAgg_of Tryd.isAgg26) (tySize_of Tryd.sizeOf26) (by omega) (rdI_fa M (mvG g f p q (i + 1)) (.ty 44)) (by omega)
  rw [show i * 6 = 0 + 6 * i by omega, this, fa_3]
  have e0 : mvG g f p q (i + 1) (6 * i + 0) = f (6 * i) + dwV f p q i 0 := by
    unfold mvG
    rw [if_pos (by omega), show (6 * i + 0) / 6 = i by omega, show (6 * i + 0) % 6 = 0 by omega]
    rfl
  have e1 : mvG g f p q (i + 1) (6 * i + 1) = f (6 * i + 1) + dwV f p q i 1 := by
    unfold mvG
    rw [if_pos (by omega), show (6 * i + 1) / 6 = i by omega, show (6 * i + 1) % 6 = 1 by omega]
  have e2 : mvG g f p q (i + 1) (6 * i + 2) = f (6 * i + 2) + dwV f p q i 2 := by
    unfold mvG
    rw [if_pos (by omega), show (6 * i + 2) / 6 = i by omega, show (6 * i + 2) % 6 = 2 by omega]
  simp only [e0, e1, e2]
def d15St (b : Blk) (st : Int) (off n cap c M cl : Nat) (g f gl : Nat → Int) (p q : Int) (i : Nat) : GS :=
  ⟨tsL [(3, .pointer (some ⟨200, 0, none⟩)), (6, .pointer (some ⟨208, 0, none⟩)), (8, .slice (some ⟨248, 0, none⟩) n cl), (10, .pointer (some ⟨328, 0, none⟩)), (11, .int .i64 i)],
   hpL G0 [(100, b), (200, stB' st 100 off n cap), (208, ⟨#[.int .i64 0, .slice none 0 0], .ty 24⟩), (248, ⟨fa (3 * cl) .i64 gl, .ty 26⟩), (320, ⟨fa M .i64 (mvG g f p q i), .ty 44⟩), (328, stB' st 320 0 n c)], 400, 0⟩
set_option maxRecDepth 8000 in
set_option maxHeartbeats 8000000 in
theorem drift15_fun (b : Blk) (off n cap : Nat) (f : Nat → Int) (h : SB b off n f) (hcap : n ≤ cap) (st p q : Int) (hs : i64 st) (hp : i64 p) (hq : i64 q) :
    FunS Tryd.prog G0 22 #[.agg #[.int .i64 st, .slice (some ⟨100, off, none⟩) n cap], .int .i64 p, .int .i64 q] (hpL G0 [(100, b)]) (keys [(100, b)]) (DriftR 1000 st n (drF st f n p q) (drE st f n p q)) := by
  refine newS_ofL (B := 200) G0F Tryd.func22 rfl Tryd.call22 (oneL_ok h.fx) ?_ driftR_fit (by simp [Tryd.ntmps22]) (by omega) ?_
  · simp [idsV, idsA, idsF, ids0, keys]
  intro C hC hC0 hY
  have hr := fun ρ => Blk.fx_rn h.fx ρ
  have hid := fun D => Blk.fx_ids h.fx D
  have hnn := h.nn
  have dW := ways15_at 100 248 (by omega) (by omega) (by omega) b off n cap f h st p q hp hq
  cases c2 : (rightB st f n && partB p q) with
  | false =>
    have hE : drE st f n p q = 2 := by unfold drE; rw [c2]; rfl
    have hF : drF st f n p q = f := by unfold drF; rw [if_neg (by omega)]
    rw [hE, hF]
    rw [c2] at dW
    repeat' (first | refine GW_seq ?_ | simp only [List.length_cons, List.length_nil, Nat.reduceAdd, Nat.reduceMul, wN] | ((first | refine GW_region' [] (by kernel_rfl) ?_ | refine GW_draw' [] follows (by kernel_rfl) (by kernel_rfl) ?_); intro Q hQ hP; simp [hC, hY]; (first | refine hQ _ _ _ _ ?_ | refine hQ _ _ _ _ (by kernel_rfl) ?_ | refine hP _ _ (fun _ => ?_) | refine hP _ _ (by kernel_rfl) (fun _ => ?_)); clear hQ hP Q) | refine GW_block ?_ | refine GW_ret ?_ | refine GW_skip ?_ | refine GW_exit ?_ | refine GW_goto ?_ | refine GW_label ?_ | simp only [blockG_exit] | (refine GW_cond (by simp; rfl) ?_ ?_ <;> (intro hb; first | (exfalso; exact absurd hb (by decide)) | skip)))
    refine GW_list ?_
    simp only [Array.toList]
    refine GL_walk 3 [] rfl (by simp) (by kernel_rfl) ?_; intro q hq; simp [hC, hY]; refine hq _ _ _ _ ?_; clear hq q
    simp only [wT, List.length_cons, List.length_nil, Nat.reduceAdd]
    refine GL_callL (f := .func 20) (cap := #[]) hC dW rfl (by simp) rfl rfl (by simp [okT]) (by simp [gev]) (by simp) (by simp [okX, junk]) (by simp [gev]) (by simp) (by (intro k hk; first | rfl | (simp (disch := omega) only [addB, List.mem_cons, List.not_mem_nil, or_false, upd_other, hpL_cons, hpL_nil, if_neg, updL] <;> done))) ?_ ?_
    · rintro v ns ⟨w, hV, rfl⟩ k hk
      rw [vecR_key hV k hk]
      omega
    rintro v ns ⟨w, hV, rfl⟩
    rcases hV with ⟨_, rfl, rfl⟩ | ⟨cd, gd, kd0, _⟩
    rotate_left
    · simp at kd0
    refine GL_walk 5 [] rfl (by simp) (by kernel_rfl) ?_; intro q hq; simp [hC, hY, putT, updL]; refine hq _ _ _ _ ?_; clear hq q
    simp only [wT, List.length_cons, List.length_nil, Nat.reduceAdd]
    refine GL_nil ?_
    repeat' (first | refine GW_seq ?_ | simp only [List.length_cons, List.length_nil, Nat.reduceAdd, Nat.reduceMul, wN] | ((first | refine GW_region' [] (by kernel_rfl) ?_ | refine GW_draw' [] follows (by kernel_rfl) (by kernel_rfl) ?_); intro Q hQ hP; simp [hC, hY]; (first | refine hQ _ _ _ _ ?_ | refine hQ _ _ _ _ (by kernel_rfl) ?_ | refine hP _ _ (fun _ => ?_) | refine hP _ _ (by kernel_rfl) (fun _ => ?_)); clear hQ hP Q) | refine GW_block ?_ | refine GW_ret ?_ | refine GW_skip ?_ | refine GW_exit ?_ | refine GW_goto ?_ | refine GW_label ?_ | simp only [blockG_exit] | (refine GW_cond (by simp; rfl) ?_ ?_ <;> (intro hb; first | (exfalso; exact absurd hb (by decide)) | skip)))
    refine GW_list ?_
    simp only [Array.toList]
    refine GL_walk 1 [] rfl (by simp) (by kernel_rfl) ?_; intro q hq; simp [hC, hY]; refine hq _ _ _ _ ?_; clear hq q
    simp only [wT, List.length_cons, List.length_nil, Nat.reduceAdd]
    refine GL_callL (f := .func 39) (cap := #[]) hC (own10_at 320 (by omega) b off n cap f h hcap st) rfl (by simp) rfl rfl (by simp [okT]) (by simp [gev]) (by simp) (by simp [okX, junk]) (by simp [gev]) (by simp) (by (intro k hk; first | rfl | (simp (disch := omega) only [addB, List.mem_cons, List.not_mem_nil, or_false, upd_other, hpL_cons, hpL_nil, if_neg, updL] <;> done))) ?_ ?_
    · rintro v ns ⟨c3, M3, g3, k1, k2, k3, rfl, rfl⟩
      simp [keys]
    rintro v ns ⟨c3, M3, g3, k1, k2, k3, rfl, rfl⟩
    refine GL_walk 3 [] rfl (by simp) (by kernel_rfl) ?_; intro q hq; simp [hC, hY, putT, updL]; refine hq _ _ _ _ ?_; clear hq q
    simp only [wT, List.length_cons, List.length_nil, Nat.reduceAdd]
    refine GL_nil ?_
    repeat' (first | refine GW_seq ?_ | simp only [List.length_cons, List.length_nil, Nat.reduceAdd, Nat.reduceMul, wN] | ((first | refine GW_region' [] (by kernel_rfl) ?_ | refine GW_draw' [] follows (by kernel_rfl) (by kernel_rfl) ?_); intro Q hQ hP; simp [hC, hY]; (first | refine hQ _ _ _ _ ?_ | refine hQ _ _ _ _ (by kernel_rfl) ?_ | refine hP _ _ (fun _ => ?_) | refine hP _ _ (by kernel_rfl) (fun _ => ?_)); clear hQ hP Q) | refine GW_block ?_ | refine GW_ret ?_ | refine GW_skip ?_ | refine GW_exit ?_ | refine GW_goto ?_ | refine GW_label ?_ | simp only [blockG_exit] | (refine GW_cond (by simp; rfl) ?_ ?_ <;> (intro hb; first | (exfalso; exact absurd hb (by decide)) | skip)))
    refine ⟨.inr trivial, keep_of G0F (by simp) (by (intro k hk; first | rfl | (simp (disch := omega) only [addB, List.mem_cons, List.not_mem_nil, or_false, upd_other, hpL_cons, hpL_nil, if_neg, updL] <;> done))), _, _, fun k => if k = 1000 then 320 else k, ⟨_, ⟨c3, M3, g3, k1, k2, k3, rfl, rfl⟩, rfl⟩, fun k hk => if_neg (by omega), by simp, by simp, ?_, ?_⟩
    · simp [Tryd.results22, ren, renA, renF, ren0]
    · simp [fa_rn]
  | true =>
    obtain ⟨c0, c1⟩ : rightB st f n = true ∧ partB p q = true := by simpa using c2
    obtain ⟨_, ⟨n1, n4⟩, _⟩ := right_n c0
    rw [c2] at dW
    repeat' (first | refine GW_seq ?_ | simp only [List.length_cons, List.length_nil, Nat.reduceAdd, Nat.reduceMul, wN] | ((first | refine GW_region' [] (by kernel_rfl) ?_ | refine GW_draw' [] follows (by kernel_rfl) (by kernel_rfl) ?_); intro Q hQ hP; simp [hC, hY]; (first | refine hQ _ _ _ _ ?_ | refine hQ _ _ _ _ (by kernel_rfl) ?_ | refine hP _ _ (fun _ => ?_) | refine hP _ _ (by kernel_rfl) (fun _ => ?_)); clear hQ hP Q) | refine GW_block ?_ | refine GW_ret ?_ | refine GW_skip ?_ | refine GW_exit ?_ | refine GW_goto ?_ | refine GW_label ?_ | simp only [blockG_exit] | (refine GW_cond (by simp; rfl) ?_ ?_ <;> (intro hb; first | (exfalso; exact absurd hb (by decide)) | skip)))
    refine GW_list ?_
    simp only [Array.toList]
    refine GL_walk 3 [] rfl (by simp) (by kernel_rfl) ?_; intro q hq; simp [hC, hY]; refine hq _ _ _ _ ?_; clear hq q
    simp only [wT, List.length_cons, List.length_nil, Nat.reduceAdd]
    refine GL_callL (f := .func 20) (cap := #[]) hC dW rfl (by simp) rfl rfl (by simp [okT]) (by simp [gev]) (by simp) (by simp [okX, junk]) (by simp [gev]) (by simp) (by (intro k hk; first | rfl | (simp (disch := omega) only [addB, List.mem_cons, List.not_mem_nil, or_false, upd_other, hpL_cons, hpL_nil, if_neg, updL] <;> done))) ?_ ?_
    · rintro v ns ⟨w, hV, rfl⟩ k hk
      rw [vecR_key hV k hk]
      omega
    rintro v ns ⟨w, hV, rfl⟩
    rcases hV with ⟨h1, _⟩ | ⟨cd, gd, kd0, kd1, kd2, rfl, rfl⟩
    · simp at h1; omega
    simp only [if_true] at kd0 kd1 kd2
    refine GL_walk 5 [] rfl (by simp) (by kernel_rfl) ?_; intro q hq; simp [hC, hY, putT, updL]; refine hq _ _ _ _ ?_; clear hq q
    simp only [wT, List.length_cons, List.length_nil, Nat.reduceAdd]
    refine GL_nil ?_
    repeat' (first | refine GW_seq ?_ | simp only [List.length_cons, List.length_nil, Nat.reduceAdd, Nat.reduceMul, wN] | ((first | refine GW_region' [] (by kernel_rfl) ?_ | refine GW_draw' [] follows (by kernel_rfl) (by kernel_rfl) ?_); intro Q hQ hP; simp [hC, hY]; (first | refine hQ _ _ _ _ ?_ | refine hQ _ _ _ _ (by kernel_rfl) ?_ | refine hP _ _ (fun _ => ?_) | refine hP _ _ (by kernel_rfl) (fun _ => ?_)); clear hQ hP Q) | refine GW_block ?_ | refine GW_ret ?_ | refine GW_skip ?_ | refine GW_exit ?_ | refine GW_goto ?_ | refine GW_label ?_ | simp only [blockG_exit] | (refine GW_cond (by simp; rfl) ?_ ?_ <;> (intro hb; first | (exfalso; exact absurd hb (by decide)) | skip)))
    refine GW_list ?_
    simp only [Array.toList]
    refine GL_walk 1 [] rfl (by simp) (by kernel_rfl) ?_; intro q hq; simp [hC, hY]; refine hq _ _ _ _ ?_; clear hq q
    simp only [wT, List.length_cons, List.length_nil, Nat.reduceAdd]
    refine GL_callL (f := .func 39) (cap := #[]) hC (own10_at 320 (by omega) b off n cap f h hcap st) rfl (by simp) rfl rfl (by simp [okT]) (by simp [gev]) (by simp) (by simp [okX, junk]) (by simp [gev]) (by simp) (by (intro k hk; first | rfl | (simp (disch := omega) only [addB, List.mem_cons, List.not_mem_nil, or_false, upd_other, hpL_cons, hpL_nil, if_neg, updL] <;> done))) ?_ ?_
    · rintro v ns ⟨c3, M3, g3, k1, k2, k3, rfl, rfl⟩
      simp [keys]
    rintro v ns ⟨c3, M3, g3, k1, k2, k3, rfl, rfl⟩
    refine GL_walk 2 [] rfl (by simp) (by kernel_rfl) ?_; intro q hq; simp [hC, hY, putT, updL]; refine hq _ _ _ _ ?_; clear hq q
    simp only [wT, List.length_cons, List.length_nil, Nat.reduceAdd]
    refine GL_nil ?_
    repeat' (first | refine GW_seq ?_ | simp only [List.length_cons, List.length_nil, Nat.reduceAdd, Nat.reduceMul, wN] | ((first | refine GW_region' [] (by kernel_rfl) ?_ | refine GW_draw' [] follows (by kernel_rfl) (by kernel_rfl) ?_); intro Q hQ hP; simp [hC, hY]; (first | refine hQ _ _ _ _ ?_ | refine hQ _ _ _ _ (by kernel_rfl) ?_ | refine hP _ _ (fun _ => ?_) | refine hP _ _ (by kernel_rfl) (fun _ => ?_)); clear hQ hP Q) | refine GW_block ?_ | refine GW_ret ?_ | refine GW_skip ?_ | refine GW_exit ?_ | refine GW_goto ?_ | refine GW_label ?_ | simp only [blockG_exit] | (refine GW_cond (by simp; rfl) ?_ ?_ <;> (intro hb; first | (exfalso; exact absurd hb (by decide)) | skip)))
    obtain ⟨N, hN, hlt, hend⟩ := leadB (okB f p q) n
    refine GW_for N (d15St b st off n cap c3 M3 cd g3 f gd p q) ?_ ?_ ?_
    · refine weakL _ 400 hC G0F (m0 := [(100, b)]) hC0 (by omega) ?_ ?_ ?_
      · simp [idsV, idsA, idsF, ids0, dom]
      · simp [stB', ids_lit, idsF, ids0, hid, dom, mvG_0, Blk.fx_ids (fa_fx _ _ _)]
      · simp
    · intro i hi
      have hin : i < n := by omega
      have hi' : (i : Int) < n := by omega
      have hz : (0 : Int) ≤ i := by omega
      have hs : Int.bmod ((i : Int) + 1) 18446744073709551616 = ((i + 1 : Nat) : Int) := by rw [bm (by omega) (by omega)]; rfl
      have hl := row_vec (p := p) (q := q) k2 k3 hin
      have hl2 := row_vec' (g := g3) (f := f) (p := p) (q := q) k2 hin
      have hput := put_row' (g := g3) (f := f) (p := p) (q := q) k2 hin
      have hok := hlt i hi
      unfold okB at hok
      have hM : i * 6 + 3 ≤ M3 := by omega
      have d0 := vec_ld1 (g := gd) kd1 hin (u := 0) (by omega)
      have d1 := vec_ld1 (g := gd) kd1 hin (u := 1) (by omega)
      have d2 := vec_ld1 (g := gd) kd1 hin (u := 2) (by omega)
      rw [kd2 _ (by omega), vecsG_at f p q i 0 (by omega), Nat.add_zero] at d0
      rw [kd2 _ (by omega), vecsG_at f p q i 1 (by omega)] at d1
      rw [kd2 _ (by omega), vecsG_at f p q i 2 (by omega)] at d2
      have hw := inV_iff.1 hok
      unfold inW at hw
      have b0 : Int.bmod (f (6 * i) + dwV f p q i 0) 18446744073709551616 = f (6 * i) + dwV f p q i 0 := bm (by omega) (by omega)
      have b1 : Int.bmod (f (6 * i + 1) + dwV f p q i 1) 18446744073709551616 = f (6 * i + 1) + dwV f p q i 1 := bm (by omega) (by omega)
      have b2 : Int.bmod (f (6 * i + 2) + dwV f p q i 2) 18446744073709551616 = f (6 * i + 2) + dwV f p q i 2 := bm (by omega) (by omega)
      unfold d15St stB'
      repeat' (first | refine GW_seq ?_ | simp only [List.length_cons, List.length_nil, Nat.reduceAdd, Nat.reduceMul, wN] | ((first | refine GW_region' [] (by kernel_rfl) ?_ | refine GW_draw' [] follows (by kernel_rfl) (by kernel_rfl) ?_); intro Q hQ hP; simp [hC, hY, hi, hin, hi', hz, hs, hl, hl2, hput, hok, hM, d0, d1, d2, b0, b1, b2, i64_box]; (first | refine hQ _ _ _ _ ?_ | refine hQ _ _ _ _ (by kernel_rfl) ?_ | refine hP _ _ (fun _ => ?_) | refine hP _ _ (by kernel_rfl) (fun _ => ?_)); clear hQ hP Q) | refine GW_block ?_ | refine GW_ret ?_ | refine GW_skip ?_ | refine GW_exit ?_ | refine GW_goto ?_ | refine GW_label ?_ | simp only [blockG_exit] | (refine GW_cond (by simp; rfl) ?_ ?_ <;> (intro hb; first | (exfalso; exact absurd hb (by decide)) | skip)))
      refine weakL _ 400 hC G0F (m0 := [(100, b)]) hC0 (by omega) ?_ ?_ ?_
      · simp [idsV, idsA, idsF, ids0, dom, hs]
      · simp [stB', ids_lit, idsF, ids0, hid, dom, Blk.fx_ids (fa_fx _ _ _), hput]
      · simp
    · by_cases hNn : N = n
      · subst hNn
        have hE : drE st f N p q = 0 := drE_ok c0 c1 hlt
        rw [drF_0 hE, hE]
        unfold d15St stB'
        repeat' (first | refine GW_seq ?_ | simp only [List.length_cons, List.length_nil, Nat.reduceAdd, Nat.reduceMul, wN] | ((first | refine GW_region' [] (by kernel_rfl) ?_ | refine GW_draw' [] follows (by kernel_rfl) (by kernel_rfl) ?_); intro Q hQ hP; simp [hC, hY]; (first | refine hQ _ _ _ _ ?_ | refine hQ _ _ _ _ (by kernel_rfl) ?_ | refine hP _ _ (fun _ => ?_) | refine hP _ _ (by kernel_rfl) (fun _ => ?_)); clear hQ hP Q) | refine GW_block ?_ | refine GW_ret ?_ | refine GW_skip ?_ | refine GW_exit ?_ | refine GW_goto ?_ | refine GW_label ?_ | simp only [blockG_exit] | (refine GW_cond (by simp; rfl) ?_ ?_ <;> (intro hb; first | (exfalso; exact absurd hb (by decide)) | skip)))
        refine ⟨.inr trivial, keep_of G0F (by simp) (by (intro k hk; first | rfl | (simp (disch := omega) only [addB, List.mem_cons, List.not_mem_nil, or_false, upd_other, hpL_cons, hpL_nil, if_neg, updL] <;> done))), _, _, fun k => if k = 1000 then 320 else k, ⟨_, ⟨c3, M3, mvG g3 f p q N, k1, k2, fun j hj => mvG_end hj k3, rfl, rfl⟩, rfl⟩, fun k hk => if_neg (by omega), by simp, by simp, ?_, ?_⟩
        · simp [Tryd.results22, ren, renA, renF, ren0]
        · simp [fa_rn]
      · have hin : N < n := by omega
        have hok := hend.resolve_left hNn
        have hE : drE st f n p q = 20 := by
          unfold drE
          simp [c0, c1, drOk_f hin hok]
        have hF : drF st f n p q = f := by unfold drF; rw [if_neg (by omega)]
        rw [hE, hF]
        have hi' : (N : Int) < n := by omega
        have hz : (0 : Int) ≤ N := by omega
        have hl := row_vec (p := p) (q := q) k2 k3 hin
        have hl2 := row_vec' (g := g3) (f := f) (p := p) (q := q) k2 hin
        have hput := put_row' (g := g3) (f := f) (p := p) (q := q) k2 hin
        unfold okB at hok
        have hM : N * 6 + 3 ≤ M3 := by omega
        have d0 := vec_ld1 (g := gd) kd1 hin (u := 0) (by omega)
        have d1 := vec_ld1 (g := gd) kd1 hin (u := 1) (by omega)
        have d2 := vec_ld1 (g := gd) kd1 hin (u := 2) (by omega)
        rw [kd2 _ (by omega), vecsG_at f p q N 0 (by omega), Nat.add_zero] at d0
        rw [kd2 _ (by omega), vecsG_at f p q N 1 (by omega)] at d1
        rw [kd2 _ (by omega), vecsG_at f p q N 2 (by omega)] at d2
        obtain ⟨⟨x0, x1, x2⟩, v0, v1, v2⟩ := right_b c0 hin
        have bd : ∀ u, u < 3 → -2251799813685248 ≤ dwV f p q N u ∧ dwV f p q N u ≤ 2251799813685248 := fun u hu => by
          have hv : inW 65536 (f (6 * N + 3 + u)) := by
            obtain rfl | rfl | rfl : u = 0 ∨ u = 1 ∨ u = 2 := by omega
            · exact v0
            · exact v1
            · exact v2
          rw [right_dwV c0 c1 hin hu]
          unfold inW at hv
          exact (d1_bd c1 (by omega) (by omega)).2
        have e0 := bd 0 (by omega)
        have e1 := bd 1 (by omega)
        have e2 := bd 2 (by omega)
        unfold inW at x0 x1 x2
        have b0 : Int.bmod (f (6 * N) + dwV f p q N 0) 18446744073709551616 = f (6 * N) + dwV f p q N 0 := bm (by omega) (by omega)
        have b1 : Int.bmod (f (6 * N + 1) + dwV f p q N 1) 18446744073709551616 = f (6 * N + 1) + dwV f p q N 1 := bm (by omega) (by omega)
        have b2 : Int.bmod (f (6 * N + 2) + dwV f p q N 2) 18446744073709551616 = f (6 * N + 2) + dwV f p q N 2 := bm (by omega) (by omega)
        unfold d15St stB'
        repeat' (first | refine GW_seq ?_ | simp only [List.length_cons, List.length_nil, Nat.reduceAdd, Nat.reduceMul, wN] | ((first | refine GW_region' [] (by kernel_rfl) ?_ | refine GW_draw' [] follows (by kernel_rfl) (by kernel_rfl) ?_); intro Q hQ hP; simp [hC, hY, hin, hi', hz, hl, hl2, hput, hok, hM, d0, d1, d2, b0, b1, b2, i64_box]; (first | refine hQ _ _ _ _ ?_ | refine hQ _ _ _ _ (by kernel_rfl) ?_ | refine hP _ _ (fun _ => ?_) | refine hP _ _ (by kernel_rfl) (fun _ => ?_)); clear hQ hP Q) | refine GW_block ?_ | refine GW_ret ?_ | refine GW_skip ?_ | refine GW_exit ?_ | refine GW_goto ?_ | refine GW_label ?_ | simp only [blockG_exit] | (refine GW_cond (by simp; rfl) ?_ ?_ <;> (intro hb; first | (exfalso; exact absurd hb (by decide)) | skip)))
        refine GW_list ?_
        simp only [Array.toList]
        refine GL_walk 1 [] rfl (by simp) (by kernel_rfl) ?_; intro q hq; simp [hC, hY]; refine hq _ _ _ _ ?_; clear hq q
        simp only [wT, List.length_cons, List.length_nil, Nat.reduceAdd]
        refine GL_callL (f := .func 39) (cap := #[]) hC (own10_at 816 (by omega) b off n cap f h hcap st) rfl (by simp) rfl rfl (by simp [okT]) (by simp [gev]) (by simp) (by simp [okX, junk]) (by simp [gev]) (by simp) (by (intro k hk; first | rfl | (simp (disch := omega) only [addB, List.mem_cons, List.not_mem_nil, or_false, upd_other, hpL_cons, hpL_nil, if_neg, updL] <;> done))) ?_ ?_
        · rintro v ns ⟨c4, M4, g4, l1, l2, l3, rfl, rfl⟩
          simp [keys]
        rintro v ns ⟨c4, M4, g4, l1, l2, l3, rfl, rfl⟩
        refine GL_walk 2 [] rfl (by simp) (by kernel_rfl) ?_; intro q hq; simp [hC, hY, putT, updL]; refine hq _ _ _ _ ?_; clear hq q
        simp only [wT, List.length_cons, List.length_nil, Nat.reduceAdd]
        refine GL_nil ?_
        repeat' (first | refine GW_seq ?_ | simp only [List.length_cons, List.length_nil, Nat.reduceAdd, Nat.reduceMul, wN] | ((first | refine GW_region' [] (by kernel_rfl) ?_ | refine GW_draw' [] follows (by kernel_rfl) (by kernel_rfl) ?_); intro Q hQ hP; simp [hC, hY]; (first | refine hQ _ _ _ _ ?_ | refine hQ _ _ _ _ (by kernel_rfl) ?_ | refine hP _ _ (fun _ => ?_) | refine hP _ _ (by kernel_rfl) (fun _ => ?_)); clear hQ hP Q) | refine GW_block ?_ | refine GW_ret ?_ | refine GW_skip ?_ | refine GW_exit ?_ | refine GW_goto ?_ | refine GW_label ?_ | simp only [blockG_exit] | (refine GW_cond (by simp; rfl) ?_ ?_ <;> (intro hb; first | (exfalso; exact absurd hb (by decide)) | skip)))
        refine ⟨.inr trivial, keep_of G0F (by simp) (by (intro k hk; first | rfl | (simp (disch := omega) only [addB, List.mem_cons, List.not_mem_nil, or_false, upd_other, hpL_cons, hpL_nil, if_neg, updL] <;> done))), _, _, fun k => if k = 1000 then 816 else k, ⟨_, ⟨c4, M4, g4, l1, l2, l3, rfl, rfl⟩, rfl⟩, fun k hk => if_neg (by omega), by simp, by simp, ?_, ?_⟩
        · simp [Tryd.results22, ren, renA, renF, ren0]
        · simp [fa_rn]
end Go.Gy
namespace Go.Gy
set_option linter.unusedSimpArgs false
set_option linter.unusedVariables false
open Go Go.RowKit Go.Proofs
theorem rig10_big (b : Blk) (off n cap : Nat) (hb : b.fx) (hn : 4 < n) (st : Int) :
    Fun Tryd.prog G0 25 #[.agg #[.int .i64 st, .slice (some ⟨100, off, none⟩) n cap]] (hpL G0 [(100, b)]) (keys [(100, b)]) (.ret (.bool false) []) := by
  refine fun_ofL (B := 200) G0F Tryd.func25 rfl Tryd.call25 (oneL_ok hb) ?_ (by simp) (by simp) (by simp) (by simp [Tryd.ntmps25]) (by omega) ?_
  · simp [idsV, idsA, idsF, ids0, keys]
  intro C hC hC0 hY
  have c2 : 1 ≤ n := by omega
  have c2' : (1 : Int) ≤ n := by omega
  have c2'' : 0 < n := by omega
  have c3 : ¬ n ≤ 4 := by omega
  have c4 : ¬ (n : Int) ≤ 4 := by omega
  by_cases c0 : -1073741824 ≤ st
  · by_cases c1 : st ≤ 1073741824
    ·
      repeat' (first | refine GW_seq ?_ | simp only [List.length_cons, List.length_nil, Nat.reduceAdd, Nat.reduceMul, wN] | ((first | refine GW_region' [] (by kernel_rfl) ?_ | refine GW_draw' [] follows (by kernel_rfl) (by kernel_rfl) ?_); intro Q hQ hP; simp [hC, hY, c0, c1, c2, c2', c2'', c3, c4]; (first | refine hQ _ _ _ _ ?_ | refine hQ _ _ _ _ (by kernel_rfl) ?_ | refine hP _ _ (fun _ => ?_) | refine hP _ _ (by kernel_rfl) (fun _ => ?_)); clear hQ hP Q) | refine GW_block ?_ | refine GW_ret ?_ | refine GW_skip ?_ | refine GW_exit ?_ | refine GW_goto ?_ | refine GW_label ?_ | simp only [blockG_exit] | (refine GW_cond (by simp; rfl) ?_ ?_ <;> (intro hb; first | (exfalso; exact absurd hb (by decide)) | skip)))
      refine ⟨.inr rfl, by simp [Tryd.results25], keep_of G0F (by simp) (by (intro k hk; first | rfl | (simp (disch := omega) only [addB, List.mem_cons, List.not_mem_nil, or_false, upd_other, hpL_cons, hpL_nil, if_neg, updL] <;> done)))⟩
    ·
      repeat' (first | refine GW_seq ?_ | simp only [List.length_cons, List.length_nil, Nat.reduceAdd, Nat.reduceMul, wN] | ((first | refine GW_region' [] (by kernel_rfl) ?_ | refine GW_draw' [] follows (by kernel_rfl) (by kernel_rfl) ?_); intro Q hQ hP; simp [hC, hY, c0, c1]; (first | refine hQ _ _ _ _ ?_ | refine hQ _ _ _ _ (by kernel_rfl) ?_ | refine hP _ _ (fun _ => ?_) | refine hP _ _ (by kernel_rfl) (fun _ => ?_)); clear hQ hP Q) | refine GW_block ?_ | refine GW_ret ?_ | refine GW_skip ?_ | refine GW_exit ?_ | refine GW_goto ?_ | refine GW_label ?_ | simp only [blockG_exit] | (refine GW_cond (by simp; rfl) ?_ ?_ <;> (intro hb; first | (exfalso; exact absurd hb (by decide)) | skip)))
      refine ⟨.inr rfl, by simp [Tryd.results25], keep_of G0F (by simp) (by (intro k hk; first | rfl | (simp (disch := omega) only [addB, List.mem_cons, List.not_mem_nil, or_false, upd_other, hpL_cons, hpL_nil, if_neg, updL] <;> done)))⟩
  ·
    repeat' (first | refine GW_seq ?_ | simp only [List.length_cons, List.length_nil, Nat.reduceAdd, Nat.reduceMul, wN] | ((first | refine GW_region' [] (by kernel_rfl) ?_ | refine GW_draw' [] follows (by kernel_rfl) (by kernel_rfl) ?_); intro Q hQ hP; simp [hC, hY, c0]; (first | refine hQ _ _ _ _ ?_ | refine hQ _ _ _ _ (by kernel_rfl) ?_ | refine hP _ _ (fun _ => ?_) | refine hP _ _ (by kernel_rfl) (fun _ => ?_)); clear hQ hP Q) | refine GW_block ?_ | refine GW_ret ?_ | refine GW_skip ?_ | refine GW_exit ?_ | refine GW_goto ?_ | refine GW_label ?_ | simp only [blockG_exit] | (refine GW_cond (by simp; rfl) ?_ ?_ <;> (intro hb; first | (exfalso; exact absurd hb (by decide)) | skip)))
    refine ⟨.inr rfl, by simp [Tryd.results25], keep_of G0F (by simp) (by (intro k hk; first | rfl | (simp (disch := omega) only [addB, List.mem_cons, List.not_mem_nil, or_false, upd_other, hpL_cons, hpL_nil, if_neg, updL] <;> done)))⟩
set_option maxRecDepth 8000 in
set_option maxHeartbeats 8000000 in
theorem DriftEach_nil (st p q a : Int) (hs : i64 st) (hp : i64 p) (hq : i64 q) (ha : i64 a) : Ret Tryd.prog G0 6 #[.agg #[.int .i64 st, .slice none 0 0], .int .i64 p, .int .i64 q, .int .i64 a] (.bool true) := by
  refine ret_of G0F Tryd.func6 rfl Tryd.call6 (by simp) (by simp) (by simp [Tryd.ntmps6]) ?_
  intro C hC hC0 hY
  repeat' (first | refine GW_seq ?_ | simp only [List.length_cons, List.length_nil, Nat.reduceAdd, Nat.reduceMul, wN] | ((first | refine GW_region' [] (by kernel_rfl) ?_ | refine GW_draw' [] follows (by kernel_rfl) (by kernel_rfl) ?_); intro Q hQ hP; simp [hC, hY]; (first | refine hQ _ _ _ _ ?_ | refine hQ _ _ _ _ (by kernel_rfl) ?_ | refine hP _ _ (fun _ => ?_) | refine hP _ _ (by kernel_rfl) (fun _ => ?_)); clear hQ hP Q) | refine GW_block ?_ | refine GW_ret ?_ | refine GW_skip ?_ | refine GW_exit ?_ | refine GW_goto ?_ | refine GW_label ?_ | simp only [blockG_exit] | (refine GW_cond (by simp; rfl) ?_ ?_ <;> (intro hb; first | (exfalso; exact absurd hb (by decide)) | skip)))
  refine ⟨.inr trivial, ?_⟩
  simp [Tryd.results6]
set_option maxRecDepth 8000 in
set_option maxHeartbeats 8000000 in
theorem DriftEach_big (b : Blk) (off n cap : Nat) (hb : b.fx) (hn : 20 < n) (st p q a : Int) (hs : i64 st) (hp : i64 p) (hq : i64 q) (ha : i64 a) :
    Fun Tryd.prog G0 6 #[.agg #[.int .i64 st, .slice (some ⟨100, off, none⟩) n cap], .int .i64 p, .int .i64 q, .int .i64 a] (hpL G0 [(100, b)]) (keys [(100, b)]) (.ret (.bool true) []) := by
  refine fun_ofL (B := 200) G0F Tryd.func6 rfl Tryd.call6 (oneL_ok hb) ?_ (by simp) (by simp) (by simp) (by simp [Tryd.ntmps6]) (by omega) ?_
  · simp [idsV, idsA, idsF, ids0, keys]
  intro C hC hC0 hY
  have hr := fun ρ => Blk.fx_rn hb ρ
  repeat' (first | refine GW_seq ?_ | simp only [List.length_cons, List.length_nil, Nat.reduceAdd, Nat.reduceMul, wN] | ((first | refine GW_region' [25] (by kernel_rfl) ?_ | refine GW_draw' [25] follows (by kernel_rfl) (by kernel_rfl) ?_); intro Q hQ hP; simp [hC, hY]; (repeat ((first | (refine heapK_mv (rig10_big b off n cap hb (by omega) st) G0F (B := 200) (oneL_ok hb) (fun k => k) (fun k hk => rfl) (by simp [ren, renA, renF, ren0]) (by simp) (by simp [hr]) (by simp [keys]) (by simp [keys]; rfl) ?_)); try simp [hC, hY])); (first | refine hQ _ _ _ _ ?_ | refine hQ _ _ _ _ (by kernel_rfl) ?_ | refine hP _ _ (fun _ => ?_) | refine hP _ _ (by kernel_rfl) (fun _ => ?_)); clear hQ hP Q) | refine GW_block ?_ | refine GW_ret ?_ | refine GW_skip ?_ | refine GW_exit ?_ | refine GW_goto ?_ | refine GW_label ?_ | simp only [blockG_exit] | (refine GW_cond (by simp; rfl) ?_ ?_ <;> (intro hb; first | (exfalso; exact absurd hb (by decide)) | skip)))
  refine ⟨.inr rfl, by simp [Tryd.results6], keep_of G0F (by simp) (by (intro k hk; first | rfl | (simp (disch := omega) only [addB, List.mem_cons, List.not_mem_nil, or_false, upd_other, hpL_cons, hpL_nil, if_neg, updL] <;> done)))⟩
set_option maxRecDepth 8000 in
set_option maxHeartbeats 8000000 in
theorem DriftEach_fun (b : Blk) (off n cap : Nat) (f : Nat → Int) (h : SB b off n f) (hcap : n ≤ cap) (st p q a : Int) (hs : i64 st) (hp : i64 p) (hq : i64 q) (ha : i64 a) :
    Fun Tryd.prog G0 6 #[.agg #[.int .i64 st, .slice (some ⟨100, off, none⟩) n cap], .int .i64 p, .int .i64 q, .int .i64 a] (hpL G0 [(100, b)]) (keys [(100, b)]) (.ret (.bool true) []) := by
  refine fun_ofL (B := 200) G0F Tryd.func6 rfl Tryd.call6 (oneL_ok h.fx) ?_ (by simp) (by simp) (by simp) (by simp [Tryd.ntmps6]) (by omega) ?_
  · simp [idsV, idsA, idsF, ids0, keys]
  intro C hC hC0 hY
  have hr := fun ρ => Blk.fx_rn h.fx ρ
  have hid := fun D => Blk.fx_ids h.fx D
  have hnn := h.nn
  cases c0 : rightB st f n with
  | false =>
    repeat' (first | refine GW_seq ?_ | simp only [List.length_cons, List.length_nil, Nat.reduceAdd, Nat.reduceMul, wN] | ((first | refine GW_region' [25] (by kernel_rfl) ?_ | refine GW_draw' [25] follows (by kernel_rfl) (by kernel_rfl) ?_); intro Q hQ hP; simp [hC, hY, c0]; (repeat ((first | (refine heapK_mv (rig10_fun b off n cap f h st) G0F (B := 200) (oneL_ok h.fx) (fun k => k) (fun k hk => rfl) (by simp [ren, renA, renF, ren0]) (by simp) (by simp [hr]) (by simp [keys]) (by simp [keys]; rfl) ?_)); try simp [hC, hY, c0])); (first | refine hQ _ _ _ _ ?_ | refine hQ _ _ _ _ (by kernel_rfl) ?_ | refine hP _ _ (fun _ => ?_) | refine hP _ _ (by kernel_rfl) (fun _ => ?_)); clear hQ hP Q) | refine GW_block ?_ | refine GW_ret ?_ | refine GW_skip ?_ | refine GW_exit ?_ | refine GW_goto ?_ | refine GW_label ?_ | simp only [blockG_exit] | (refine GW_cond (by simp; rfl) ?_ ?_ <;> (intro hb; first | (exfalso; exact absurd hb (by decide)) | skip)))
    refine ⟨.inr rfl, by simp [Tryd.results6], keep_of G0F (by simp) (by (intro k hk; first | rfl | (simp (disch := omega) only [addB, List.mem_cons, List.not_mem_nil, or_false, upd_other, hpL_cons, hpL_nil, if_neg, updL] <;> done)))⟩
  | true =>
    cases c1 : partB p q with
    | false =>
      repeat' (first | refine GW_seq ?_ | simp only [List.length_cons, List.length_nil, Nat.reduceAdd, Nat.reduceMul, wN] | ((first | refine GW_region' [25] (by kernel_rfl) ?_ | refine GW_draw' [25] follows (by kernel_rfl) (by kernel_rfl) ?_); intro Q hQ hP; simp [hC, hY, c0, c1]; (repeat ((first | (refine heapK_mv (rig10_fun b off n cap f h st) G0F (B := 200) (oneL_ok h.fx) (fun k => k) (fun k hk => rfl) (by simp [ren, renA, renF, ren0]) (by simp) (by simp [hr]) (by simp [keys]) (by simp [keys]; rfl) ?_)); try simp [hC, hY, c0, c1])); (first | refine hQ _ _ _ _ ?_ | refine hQ _ _ _ _ (by kernel_rfl) ?_ | refine hP _ _ (fun _ => ?_) | refine hP _ _ (by kernel_rfl) (fun _ => ?_)); clear hQ hP Q) | refine GW_block ?_ | refine GW_ret ?_ | refine GW_skip ?_ | refine GW_exit ?_ | refine GW_goto ?_ | refine GW_label ?_ | simp only [blockG_exit] | (refine GW_cond (by simp; rfl) ?_ ?_ <;> (intro hb; first | (exfalso; exact absurd hb (by decide)) | skip)))
      refine ⟨.inr rfl, by simp [Tryd.results6], keep_of G0F (by simp) (by (intro k hk; first | rfl | (simp (disch := omega) only [addB, List.mem_cons, List.not_mem_nil, or_false, upd_other, hpL_cons, hpL_nil, if_neg, updL] <;> done)))⟩
    | true =>
      obtain ⟨_, ⟨n1, n4⟩, _⟩ := right_n c0
      obtain ⟨i, hin, t1, t2⟩ := at_i ha n1 n4
      have hz : (0 : Int) ≤ i := by omega
      have hi' : (i : Int) < n := by omega
      have hn0 : ¬ n = 0 := by omega
      have hld := h.body hin
      repeat' (first | refine GW_seq ?_ | simp only [List.length_cons, List.length_nil, Nat.reduceAdd, Nat.reduceMul, wN] | ((first | refine GW_region' [25] (by kernel_rfl) ?_ | refine GW_draw' [25] follows (by kernel_rfl) (by kernel_rfl) ?_); intro Q hQ hP; simp [hC, hY, c0, c1, t1, t2, hin, hz, hi', hn0, hld]; (repeat ((first | (refine heapK_mv (rig10_fun b off n cap f h st) G0F (B := 200) (oneL_ok h.fx) (fun k => k) (fun k hk => rfl) (by simp [ren, renA, renF, ren0]) (by simp) (by simp [hr]) (by simp [keys]) (by simp [keys]; rfl) ?_)); try simp [hC, hY, c0, c1, t1, t2, hin, hz, hi', hn0, hld])); (first | refine hQ _ _ _ _ ?_ | refine hQ _ _ _ _ (by kernel_rfl) ?_ | refine hP _ _ (fun _ => ?_) | refine hP _ _ (by kernel_rfl) (fun _ => ?_)); clear hQ hP Q) | refine GW_block ?_ | refine GW_ret ?_ | refine GW_skip ?_ | refine GW_exit ?_ | refine GW_goto ?_ | refine GW_label ?_ | simp only [blockG_exit] | (refine GW_cond (by simp; rfl) ?_ ?_ <;> (intro hb; first | (exfalso; exact absurd hb (by decide)) | skip)))
      obtain ⟨cE, hcE⟩ : ∃ E, drE st f n p q = E := ⟨_, rfl⟩
      have i0 : i64 0 := i64_n (by omega)
      have dA := drift_at 100 512 (by omega) (by omega) (by omega) b off n cap f h hcap st p q hs hp hq
      rw [hcE] at dA
      refine GW_list ?_
      simp only [Array.toList]
      refine GL_walk 3 [] rfl (by simp) (by kernel_rfl) ?_; intro q hq; simp [hC, hY]; refine hq _ _ _ _ ?_; clear hq q
      simp only [wT, List.length_cons, List.length_nil, Nat.reduceAdd]
      refine GL_callL (f := .func 21) (cap := #[]) hC dA rfl (by simp) rfl rfl (by simp [okT]) (by simp [gev]) (by simp) (by simp [okX, junk]) (by simp [gev]) (by simp) (by (intro k hk; first | rfl | (simp (disch := omega) only [addB, List.mem_cons, List.not_mem_nil, or_false, upd_other, hpL_cons, hpL_nil, if_neg, updL] <;> done))) ?_ ?_
      · intro v ns hV k hk
        rw [driftR_key hV k hk]
        omega
      rintro v ns ⟨w, ⟨ca, Ma, ga, k1a, k2a, k3a, rfl, rfl⟩, rfl⟩
      refine GL_walk 6 [] rfl (by simp) (by kernel_rfl) ?_; intro q hq; simp [hC, hY, putT, updL]; refine hq _ _ _ _ ?_; clear hq q
      simp only [wT, List.length_cons, List.length_nil, Nat.reduceAdd]
      refine GL_nil ?_
      repeat' (first | refine GW_seq ?_ | simp only [List.length_cons, List.length_nil, Nat.reduceAdd, Nat.reduceMul, wN] | ((first | refine GW_region' [] (by kernel_rfl) ?_ | refine GW_draw' [] follows (by kernel_rfl) (by kernel_rfl) ?_); intro Q hQ hP; simp [hC, hY]; (first | refine hQ _ _ _ _ ?_ | refine hQ _ _ _ _ (by kernel_rfl) ?_ | refine hP _ _ (fun _ => ?_) | refine hP _ _ (by kernel_rfl) (fun _ => ?_)); clear hQ hP Q) | refine GW_block ?_ | refine GW_ret ?_ | refine GW_skip ?_ | refine GW_exit ?_ | refine GW_goto ?_ | refine GW_label ?_ | simp only [blockG_exit] | (refine GW_cond (by simp; rfl) ?_ ?_ <;> (intro hb; first | (exfalso; exact absurd hb (by decide)) | skip)))
      have hone := one_right c0 hin
      have hSB : SB ⟨#[.int .i64 (f (6 * i)), .int .i64 (f (6 * i + 1)), .int .i64 (f (6 * i + 2)), .int .i64 (f (6 * i + 3)), .int .i64 (f (6 * i + 4)), .int .i64 (f (6 * i + 5))], .ty 44⟩ 0 1 (bodyF f i) := by
        have e : (#[.int .i64 (f (6 * i)), .int .i64 (f (6 * i + 1)), .int .i64 (f (6 * i + 2)), .int .i64 (f (6 * i + 3)), .int .i64 (f (6 * i + 4)), .int .i64 (f (6 * i + 5))] : Array Value) = fa 6 .i64 (bodyF f i) := by rw [fa_6]; rfl
        rw [e]
        exact ⟨rdI_fa _ _ _, fa_fx _ _ _, fun j hj => h.i6 _ (by omega), by omega⟩
      have dB := drift_at 456 592 (by omega) (by omega) (by omega) _ 0 1 1 (bodyF f i) hSB (Nat.le_refl _) st p q hs hp hq
      refine GW_list ?_
      simp only [Array.toList]
      refine GL_walk 3 [] rfl (by simp) (by kernel_rfl) ?_; intro q hq; simp [hC, hY]; refine hq _ _ _ _ ?_; clear hq q
      simp only [wT, List.length_cons, List.length_nil, Nat.reduceAdd]
      refine GL_callL (f := .func 21) (cap := #[]) hC dB rfl (by simp) rfl rfl (by simp [okT]) (by simp [gev]) (by simp) (by simp [okX, junk]) (by simp [gev]) (by simp) (by (intro k hk; first | rfl | (simp (disch := omega) only [addB, List.mem_cons, List.not_mem_nil, or_false, upd_other, hpL_cons, hpL_nil, if_neg, updL] <;> done))) ?_ ?_
      · intro v ns hV k hk
        rw [driftR_key hV k hk]
        omega
      rintro v ns ⟨w, ⟨cb, Mb, gb, k1b, k2b, k3b, rfl, rfl⟩, rfl⟩
      refine GL_walk 6 [] rfl (by simp) (by kernel_rfl) ?_; intro q hq; simp [hC, hY, putT, updL]; refine hq _ _ _ _ ?_; clear hq q
      simp only [wT, List.length_cons, List.length_nil, Nat.reduceAdd]
      refine GL_nil ?_
      repeat' (first | refine GW_seq ?_ | simp only [List.length_cons, List.length_nil, Nat.reduceAdd, Nat.reduceMul, wN] | ((first | refine GW_region' [] (by kernel_rfl) ?_ | refine GW_draw' [] follows (by kernel_rfl) (by kernel_rfl) ?_); intro Q hQ hP; simp [hC, hY]; (first | refine hQ _ _ _ _ ?_ | refine hQ _ _ _ _ (by kernel_rfl) ?_ | refine hP _ _ (fun _ => ?_) | refine hP _ _ (by kernel_rfl) (fun _ => ?_)); clear hQ hP Q) | refine GW_block ?_ | refine GW_ret ?_ | refine GW_skip ?_ | refine GW_exit ?_ | refine GW_goto ?_ | refine GW_label ?_ | simp only [blockG_exit] | (refine GW_cond (by simp; rfl) ?_ ?_ <;> (intro hb; first | (exfalso; exact absurd hb (by decide)) | skip)))
      have dW := dWays_at 100 672 (by omega) (by omega) (by omega) b off n cap f h st p q hs hp hq
      rw [c0, c1] at dW
      refine GW_list ?_
      simp only [Array.toList]
      refine GL_walk 3 [] rfl (by simp) (by kernel_rfl) ?_; intro q hq; simp [hC, hY]; refine hq _ _ _ _ ?_; clear hq q
      simp only [wT, List.length_cons, List.length_nil, Nat.reduceAdd]
      refine GL_callL (f := .func 19) (cap := #[]) hC dW rfl (by simp) rfl rfl (by simp [okT]) (by simp [gev]) (by simp) (by simp [okX, junk]) (by simp [gev]) (by simp) (by (intro k hk; first | rfl | (simp (disch := omega) only [addB, List.mem_cons, List.not_mem_nil, or_false, upd_other, hpL_cons, hpL_nil, if_neg, updL] <;> done))) ?_ ?_
      · rintro v ns ⟨w, hV, rfl⟩ k hk
        rw [vecR_key hV k hk]
        omega
      rintro v ns ⟨w, hV, rfl⟩
      rcases hV with ⟨h1, _⟩ | ⟨cd, gd, kd0, kd1, kd2, rfl, rfl⟩
      · simp at h1; omega
      simp only [Bool.and_self, if_true] at kd0 kd1 kd2
      refine GL_walk 5 [] rfl (by simp) (by kernel_rfl) ?_; intro q hq; simp [hC, hY, putT, updL]; refine hq _ _ _ _ ?_; clear hq q
      simp only [wT, List.length_cons, List.length_nil, Nat.reduceAdd]
      refine GL_nil ?_
      have hvv := h.vec hin (u := 3) (by omega)
      have j3 := h.i hin 3 (by omega)
      have j4 := h.i hin 4 (by omega)
      have j5 := h.i hin 5 (by omega)
      have ev : wyE (f (6 * i + 3)) (f (6 * i + 4)) (f (6 * i + 5)) p q = 0 := right_dwE c0 c1 hin
      repeat' (first | refine GW_seq ?_ | simp only [List.length_cons, List.length_nil, Nat.reduceAdd, Nat.reduceMul, wN] | ((first | refine GW_region' [] (by kernel_rfl) ?_ | refine GW_draw' [] follows (by kernel_rfl) (by kernel_rfl) ?_); intro Q hQ hP; simp [hC, hY, hin, hz, hi', hvv, j3, j4, j5, hp, hq, ev]; (first | refine hQ _ _ _ _ ?_ | refine hQ _ _ _ _ (by kernel_rfl) ?_ | refine hP _ _ (fun _ => ?_) | refine hP _ _ (by kernel_rfl) (fun _ => ?_)); clear hQ hP Q) | refine GW_block ?_ | refine GW_ret ?_ | refine GW_skip ?_ | refine GW_exit ?_ | refine GW_goto ?_ | refine GW_label ?_ | simp only [blockG_exit] | (refine GW_cond (by simp; rfl) ?_ ?_ <;> (intro hb; first | (exfalso; exact absurd hb (by decide)) | skip)))
      have dZ := drift_at 100 856 (by omega) (by omega) (by omega) b off n cap f h hcap st 0 q hs i0 hq
      rw [zero_E c0 c1] at dZ
      refine GW_list ?_
      simp only [Array.toList]
      refine GL_walk 2 [] rfl (by simp) (by kernel_rfl) ?_; intro q hq; simp [hC, hY]; refine hq _ _ _ _ ?_; clear hq q
      simp only [wT, List.length_cons, List.length_nil, Nat.reduceAdd]
      refine GL_callL (f := .func 21) (cap := #[]) hC dZ rfl (by simp) rfl rfl (by simp [okT]) (by simp [gev]) (by simp) (by simp [okX, junk]) (by simp [gev]) (by simp) (by (intro k hk; first | rfl | (simp (disch := omega) only [addB, List.mem_cons, List.not_mem_nil, or_false, upd_other, hpL_cons, hpL_nil, if_neg, updL] <;> done))) ?_ ?_
      · intro v ns hV k hk
        rw [driftR_key hV k hk]
        omega
      rintro v ns ⟨w, ⟨cz, Mz, gz, k1z, k2z, k3z, rfl, rfl⟩, rfl⟩
      refine GL_walk 6 [] rfl (by simp) (by kernel_rfl) ?_; intro q hq; simp [hC, hY, putT, updL]; refine hq _ _ _ _ ?_; clear hq q
      simp only [wT, List.length_cons, List.length_nil, Nat.reduceAdd]
      refine GL_nil ?_
      have ez : ∀ j, j < 6 * n → gz j = f j := fun j hj => (k3z j hj).trans (zero_F c0 c1 hj)
      have hSz : SB ⟨fa Mz .i64 gz, .ty 44⟩ 0 n gz := ⟨(rdI_fa _ _ _).le (by omega), fa_fx _ _ _, fun j hj => by rw [ez j hj]; exact h.i6 j hj, hnn⟩
      have hsame : sameB st st n n gz f = true := sameB_iff.2 ⟨rfl, rfl, ez⟩
      have hl3 : loadK Tryd.prog 26 ⟨fa (3 * cd) .i64 gd, .ty 26⟩ (i * 3) = some (.agg #[.int .i64 (d1V (f (6 * i + 3)) p q), .int .i64 (d1V (f (6 * i + 4)) p q), .int .i64 (d1V (f (6 * i + 5)) p q)]) := by
        have := loadK_rd (P := Tryd.prog) (T := 26) (m := 3) (j := 3 * i) (tyAgg_of Tryd.isAgg26) (tySize_of Tryd.sizeOf26) (by omega) (rdI_fa (3 * cd) gd (.ty 26)) (by omega)
        have g0 : gd (3 * i + 0) = d1V (f (6 * i + 3)) p q := by
          rw [kd2 _ (by omega), vecsG_at f p q i 0 (by omega), dwV, right_dwE c0 c1 hin, eaV_0]
        have g1 : gd (3 * i + 1) = d1V (f (6 * i + 4)) p q := by
          rw [kd2 _ (by omega), vecsG_at f p q i 1 (by omega), dwV, right_dwE c0 c1 hin, eaV_0]
        have g2 : gd (3 * i + 2) = d1V (f (6 * i + 5)) p q := by
          rw [kd2 _ (by omega), vecsG_at f p q i 2 (by omega), dwV, right_dwE c0 c1 hin, eaV_0]
        rw [fa_3] at this
        rw [show i * 3 = 0 + 3 * i by omega, this]
        simp only [g0, g1, g2]
      rcases drE_0 c0 c1 with ⟨hE, hok⟩ | hE
      · have hE2 : drE st (bodyF f i) 1 p q = 0 := drE_ok hone c1 fun j hj => by
          obtain rfl : j = 0 := by omega
          rw [one_ok]
          exact hok i hin
        rw [hE] at hcE
        subst hcE
        have ea : ∀ u, u < 6 → ga (6 * i + u) = mvF f p q (6 * i + u) := fun u hu => by rw [k3a _ (by omega), drF_0 hE]
        have eb : ∀ u, u < 6 → gb u = mvF f p q (6 * i + u) := fun u hu => by rw [k3b _ (by omega), drF_0 hE2, one_mv f p q i u hu]
        have la : loadK Tryd.prog 44 ⟨fa Ma .i64 ga, .ty 44⟩ (i * 6) = some (.agg #[.int .i64 (mvF f p q (6 * i + 0)), .int .i64 (mvF f p q (6 * i + 1)), .int .i64 (mvF f p q (6 * i + 2)), .int .i64 (mvF f p q (6 * i + 3)), .int .i64 (mvF f p q (6 * i + 4)), .int .i64 (mvF f p q (6 * i + 5))]) := by
          have := loadK_rd (P := Tryd.prog) (T := 44) (m := 6) (j := 6 * i) (tyAgg_of Tryd.isAgg44) (tySize_of Tryd.sizeOf44) (by omega) (rdI_fa Ma ga (.ty 44)) (by omega)
          rw [fa_6] at this
          rw [show i * 6 = 0 + 6 * i by omega, this, ea 0 (by omega), ea 1 (by omega), ea 2 (by omega), ea 3 (by omega), ea 4 (by omega), ea 5 (by omega)]
        have lb : loadK Tryd.prog 44 ⟨fa Mb .i64 gb, .ty 44⟩ 0 = some (.agg #[.int .i64 (mvF f p q (6 * i + 0)), .int .i64 (mvF f p q (6 * i + 1)), .int .i64 (mvF f p q (6 * i + 2)), .int .i64 (mvF f p q (6 * i + 3)), .int .i64 (mvF f p q (6 * i + 4)), .int .i64 (mvF f p q (6 * i + 5))]) := by
          have := loadK_rd (P := Tryd.prog) (T := 44) (m := 6) (j := 0) (tyAgg_of Tryd.isAgg44) (tySize_of Tryd.sizeOf44) (by omega) (rdI_fa Mb gb (.ty 44)) (by omega)
          rw [fa_6] at this
          have e : (0 : Nat) = 0 + 0 := rfl
          rw [e, this]
          simp only [Nat.zero_add, eb 0 (by omega), eb 1 (by omega), eb 2 (by omega), eb 3 (by omega), eb 4 (by omega), eb 5 (by omega)]
        repeat' (first | refine GW_seq ?_ | simp only [List.length_cons, List.length_nil, Nat.reduceAdd, Nat.reduceMul, wN] | ((first | refine GW_region' [24] (by kernel_rfl) ?_ | refine GW_draw' [24] follows (by kernel_rfl) (by kernel_rfl) ?_); intro Q hQ hP; simp [hC, hY, hin, hz, hi', hl3, eaV_0, hsame, hE2, la, lb]; (repeat ((first | (refine heapK_mv (same_fun _ b 0 off n n cz cap gz f hSz h st st) G0F (B := 200) (smL_ok hSz.fx h.fx) (fun k => if k = 100 then 856 else if k = 108 then 100 else k) (fun k hk => (if_neg (by omega)).trans (if_neg (by omega))) (by simp [ren, renA, renF, ren0]) (by simp) (by simp [smL, hr, fa_rn]) (by simp [keys, smL]) (by simp [keys, smL]; rfl) ?_)); try simp [hC, hY, hin, hz, hi', hl3, eaV_0, hsame, hE2, la, lb])); (first | refine hQ _ _ _ _ ?_ | refine hQ _ _ _ _ (by kernel_rfl) ?_ | refine hP _ _ (fun _ => ?_) | refine hP _ _ (by kernel_rfl) (fun _ => ?_)); clear hQ hP Q) | refine GW_block ?_ | refine GW_ret ?_ | refine GW_skip ?_ | refine GW_exit ?_ | refine GW_goto ?_ | refine GW_label ?_ | simp only [blockG_exit] | (refine GW_cond (by simp; rfl) ?_ ?_ <;> (intro hb; first | (exfalso; exact absurd hb (by decide)) | skip)))
        refine ⟨.inr rfl, by simp [Tryd.results6], keep_of G0F (by simp) (by (intro k hk; first | rfl | (simp (disch := omega) only [addB, List.mem_cons, List.not_mem_nil, or_false, upd_other, hpL_cons, hpL_nil, if_neg, updL] <;> done)))⟩
      · rw [hE] at hcE
        subst hcE
        repeat' (first | refine GW_seq ?_ | simp only [List.length_cons, List.length_nil, Nat.reduceAdd, Nat.reduceMul, wN] | ((first | refine GW_region' [24] (by kernel_rfl) ?_ | refine GW_draw' [24] follows (by kernel_rfl) (by kernel_rfl) ?_); intro Q hQ hP; simp [hC, hY, hin, hz, hi', hl3, eaV_0, hsame]; (repeat ((first | (refine heapK_mv (same_fun _ b 0 off n n cz cap gz f hSz h st st) G0F (B := 200) (smL_ok hSz.fx h.fx) (fun k => if k = 100 then 856 else if k = 108 then 100 else k) (fun k hk => (if_neg (by omega)).trans (if_neg (by omega))) (by simp [ren, renA, renF, ren0]) (by simp) (by simp [smL, hr, fa_rn]) (by simp [keys, smL]) (by simp [keys, smL]; rfl) ?_)); try simp [hC, hY, hin, hz, hi', hl3, eaV_0, hsame])); (first | refine hQ _ _ _ _ ?_ | refine hQ _ _ _ _ (by kernel_rfl) ?_ | refine hP _ _ (fun _ => ?_) | refine hP _ _ (by kernel_rfl) (fun _ => ?_)); clear hQ hP Q) | refine GW_block ?_ | refine GW_ret ?_ | refine GW_skip ?_ | refine GW_exit ?_ | refine GW_goto ?_ | refine GW_label ?_ | simp only [blockG_exit] | (refine GW_cond (by simp; rfl) ?_ ?_ <;> (intro hb; first | (exfalso; exact absurd hb (by decide)) | skip)))
        refine ⟨.inr rfl, by simp [Tryd.results6], keep_of G0F (by simp) (by (intro k hk; first | rfl | (simp (disch := omega) only [addB, List.mem_cons, List.not_mem_nil, or_false, upd_other, hpL_cons, hpL_nil, if_neg, updL] <;> done)))⟩
end Go.Gy
namespace Go.Gy
set_option linter.unusedSimpArgs false
set_option linter.unusedVariables false
open Go Go.RowKit Go.Proofs
theorem great_fun (b : Blk) (off n cap : Nat) (hb : b.fx) (st : Int) :
    Fun Tryd.prog G0 11 #[.agg #[.int .i64 st, .slice (some ⟨100, off, none⟩) n cap]] (hpL G0 [(100, b)]) (keys [(100, b)]) (.ret (.bool (decide (20 < n))) []) := by
  refine fun_ofL (B := 200) G0F Tryd.func11 rfl Tryd.call11 (oneL_ok hb) ?_ (by simp) (by simp) (by simp) (by simp [Tryd.ntmps11]) (by omega) ?_
  · simp [idsV, idsA, idsF, ids0, keys]
  intro C hC hC0 hY
  by_cases c : 20 < n
  · have c1 : (20 : Int) < n := by omega
    rw [decide_eq_true c]
    repeat' (first | refine GW_seq ?_ | simp only [List.length_cons, List.length_nil, Nat.reduceAdd, Nat.reduceMul, wN] | ((first | refine GW_region' [] (by kernel_rfl) ?_ | refine GW_draw' [] follows (by kernel_rfl) (by kernel_rfl) ?_); intro Q hQ hP; simp [hC, hY, c, c1]; (first | refine hQ _ _ _ _ ?_ | refine hQ _ _ _ _ (by kernel_rfl) ?_ | refine hP _ _ (fun _ => ?_) | refine hP _ _ (by kernel_rfl) (fun _ => ?_)); clear hQ hP Q) | refine GW_block ?_ | refine GW_ret ?_ | refine GW_skip ?_ | refine GW_exit ?_ | refine GW_goto ?_ | refine GW_label ?_ | simp only [blockG_exit] | (refine GW_cond (by simp; rfl) ?_ ?_ <;> (intro hb; first | (exfalso; exact absurd hb (by decide)) | skip)))
    refine ⟨.inr rfl, by simp [Tryd.results11], keep_of G0F (by simp) (by (intro k hk; first | rfl | (simp (disch := omega) only [addB, List.mem_cons, List.not_mem_nil, or_false, upd_other, hpL_cons, hpL_nil, if_neg, updL] <;> done)))⟩
  · have c1 : ¬ (20 : Int) < n := by omega
    rw [decide_eq_false c]
    repeat' (first | refine GW_seq ?_ | simp only [List.length_cons, List.length_nil, Nat.reduceAdd, Nat.reduceMul, wN] | ((first | refine GW_region' [] (by kernel_rfl) ?_ | refine GW_draw' [] follows (by kernel_rfl) (by kernel_rfl) ?_); intro Q hQ hP; simp [hC, hY, c, c1]; (first | refine hQ _ _ _ _ ?_ | refine hQ _ _ _ _ (by kernel_rfl) ?_ | refine hP _ _ (fun _ => ?_) | refine hP _ _ (by kernel_rfl) (fun _ => ?_)); clear hQ hP Q) | refine GW_block ?_ | refine GW_ret ?_ | refine GW_skip ?_ | refine GW_exit ?_ | refine GW_goto ?_ | refine GW_label ?_ | simp only [blockG_exit] | (refine GW_cond (by simp; rfl) ?_ ?_ <;> (intro hb; first | (exfalso; exact absurd hb (by decide)) | skip)))
    refine ⟨.inr rfl, by simp [Tryd.results11], keep_of G0F (by simp) (by (intro k hk; first | rfl | (simp (disch := omega) only [addB, List.mem_cons, List.not_mem_nil, or_false, upd_other, hpL_cons, hpL_nil, if_neg, updL] <;> done)))⟩
theorem great_nil (st : Int) : Ret Tryd.prog G0 11 #[.agg #[.int .i64 st, .slice none 0 0]] (.bool false) := by
  refine ret_of G0F Tryd.func11 rfl Tryd.call11 rfl (by simp) (by simp [Tryd.ntmps11]) ?_
  intro C hC hC0 hY
  repeat' (first | refine GW_seq ?_ | simp only [List.length_cons, List.length_nil, Nat.reduceAdd, Nat.reduceMul, wN] | ((first | refine GW_region' [] (by kernel_rfl) ?_ | refine GW_draw' [] follows (by kernel_rfl) (by kernel_rfl) ?_); intro Q hQ hP; simp [hC, hY]; (first | refine hQ _ _ _ _ ?_ | refine hQ _ _ _ _ (by kernel_rfl) ?_ | refine hP _ _ (fun _ => ?_) | refine hP _ _ (by kernel_rfl) (fun _ => ?_)); clear hQ hP Q) | refine GW_block ?_ | refine GW_ret ?_ | refine GW_skip ?_ | refine GW_exit ?_ | refine GW_goto ?_ | refine GW_label ?_ | simp only [blockG_exit] | (refine GW_cond (by simp; rfl) ?_ ?_ <;> (intro hb; first | (exfalso; exact absurd hb (by decide)) | skip)))
  refine ⟨.inr trivial, ?_⟩
  simp [Tryd.results11]
@[simp] theorem greatN (st : Int) (K : Value → Prop) : callK Tryd.prog G0 11 #[.agg #[.int .i64 st, .slice none 0 0]] K ↔ K (.bool false) := callK_iff G0W (by kernel_rfl) (great_nil st)
theorem dWays_nil (st p q : Int) (hs : i64 st) : Ret Tryd.prog G0 19 #[.agg #[.int .i64 st, .slice none 0 0], .int .i64 p, .int .i64 q] (.tuple #[.slice none 0 0, .int .i64 2]) := by
  refine ret_of G0F Tryd.func19 rfl Tryd.call19 (by simp) (by simp) (by simp [Tryd.ntmps19]) ?_
  intro C hC hC0 hY
  repeat' (first | refine GW_seq ?_ | simp only [List.length_cons, List.length_nil, Nat.reduceAdd, Nat.reduceMul, wN] | ((first | refine GW_region' [] (by kernel_rfl) ?_ | refine GW_draw' [] follows (by kernel_rfl) (by kernel_rfl) ?_); intro Q hQ hP; simp [hC, hY, hs]; (first | refine hQ _ _ _ _ ?_ | refine hQ _ _ _ _ (by kernel_rfl) ?_ | refine hP _ _ (fun _ => ?_) | refine hP _ _ (by kernel_rfl) (fun _ => ?_)); clear hQ hP Q) | refine GW_block ?_ | refine GW_ret ?_ | refine GW_skip ?_ | refine GW_exit ?_ | refine GW_goto ?_ | refine GW_label ?_ | simp only [blockG_exit] | (refine GW_cond (by simp; rfl) ?_ ?_ <;> (intro hb; first | (exfalso; exact absurd hb (by decide)) | skip)))
  refine ⟨.inr trivial, ?_⟩
  simp [Tryd.results19]
@[simp] theorem dWaysN (st p q : Int) (hs : i64 st) (K : Value → Prop) : callK Tryd.prog G0 19 #[.agg #[.int .i64 st, .slice none 0 0], .int .i64 p, .int .i64 q] K ↔ K (.tuple #[.slice none 0 0, .int .i64 2]) := callK_iff G0W (by kernel_rfl) (dWays_nil st p q hs)
theorem ways15_nil (st p q : Int) : Ret Tryd.prog G0 20 #[.agg #[.int .i64 st, .slice none 0 0], .int .i64 p, .int .i64 q] (.tuple #[.slice none 0 0, .int .i64 2]) := by
  refine ret_of G0F Tryd.func20 rfl Tryd.call20 (by simp) (by simp) (by simp [Tryd.ntmps20]) ?_
  intro C hC hC0 hY
  repeat' (first | refine GW_seq ?_ | simp only [List.length_cons, List.length_nil, Nat.reduceAdd, Nat.reduceMul, wN] | ((first | refine GW_region' [] (by kernel_rfl) ?_ | refine GW_draw' [] follows (by kernel_rfl) (by kernel_rfl) ?_); intro Q hQ hP; simp [hC, hY]; (first | refine hQ _ _ _ _ ?_ | refine hQ _ _ _ _ (by kernel_rfl) ?_ | refine hP _ _ (fun _ => ?_) | refine hP _ _ (by kernel_rfl) (fun _ => ?_)); clear hQ hP Q) | refine GW_block ?_ | refine GW_ret ?_ | refine GW_skip ?_ | refine GW_exit ?_ | refine GW_goto ?_ | refine GW_label ?_ | simp only [blockG_exit] | (refine GW_cond (by simp; rfl) ?_ ?_ <;> (intro hb; first | (exfalso; exact absurd hb (by decide)) | skip)))
  refine ⟨.inr trivial, ?_⟩
  simp [Tryd.results20]
@[simp] theorem ways15N (st p q : Int) (K : Value → Prop) : callK Tryd.prog G0 20 #[.agg #[.int .i64 st, .slice none 0 0], .int .i64 p, .int .i64 q] K ↔ K (.tuple #[.slice none 0 0, .int .i64 2]) := callK_iff G0W (by kernel_rfl) (ways15_nil st p q)
set_option maxRecDepth 8000 in
theorem drift_nil (st p q : Int) (hs : i64 st) : Ret Tryd.prog G0 21 #[.agg #[.int .i64 st, .slice none 0 0], .int .i64 p, .int .i64 q] (.tuple #[.agg #[.int .i64 st, .slice none 0 0], .int .i64 2]) := by
  refine ret_of G0F Tryd.func21 rfl Tryd.call21 (by simp) (by simp) (by simp [Tryd.ntmps21]) ?_
  intro C hC hC0 hY
  repeat' (first | refine GW_seq ?_ | simp only [List.length_cons, List.length_nil, Nat.reduceAdd, Nat.reduceMul, wN] | ((first | refine GW_region' [] (by kernel_rfl) ?_ | refine GW_draw' [] follows (by kernel_rfl) (by kernel_rfl) ?_); intro Q hQ hP; simp [hC, hY, hs]; (first | refine hQ _ _ _ _ ?_ | refine hQ _ _ _ _ (by kernel_rfl) ?_ | refine hP _ _ (fun _ => ?_) | refine hP _ _ (by kernel_rfl) (fun _ => ?_)); clear hQ hP Q) | refine GW_block ?_ | refine GW_ret ?_ | refine GW_skip ?_ | refine GW_exit ?_ | refine GW_goto ?_ | refine GW_label ?_ | simp only [blockG_exit] | (refine GW_cond (by simp; rfl) ?_ ?_ <;> (intro hb; first | (exfalso; exact absurd hb (by decide)) | skip)))
  refine GW_scope' 0 (fun m s => s = ⟨tsL [(3, .pointer (some ⟨200, 0, none⟩)), (6, .pointer (some ⟨208, 0, none⟩)), (7, .pointer (some ⟨216, 0, none⟩))], hpL G0 [(200, ⟨#[.int .i64 st, .slice none 0 0], .ty 24⟩), (208, ⟨#[.int .i64 st, .slice none 0 0], .ty 24⟩), (216, ⟨#[.int .i64 2], .ty 29⟩)], 600, 0⟩) rfl ?_ ?_
  · rintro m _ rfl
    repeat' (first | refine GW_seq ?_ | simp only [List.length_cons, List.length_nil, Nat.reduceAdd, Nat.reduceMul, wN] | ((first | refine GW_region' [] (by kernel_rfl) ?_ | refine GW_draw' [] follows (by kernel_rfl) (by kernel_rfl) ?_); intro Q hQ hP; simp [hC, hY]; (first | refine hQ _ _ _ _ ?_ | refine hQ _ _ _ _ (by kernel_rfl) ?_ | refine hP _ _ (fun _ => ?_) | refine hP _ _ (by kernel_rfl) (fun _ => ?_)); clear hQ hP Q) | refine GW_block ?_ | refine GW_ret ?_ | refine GW_skip ?_ | refine GW_exit ?_ | refine GW_goto ?_ | refine GW_label ?_ | simp only [blockG_exit] | (refine GW_cond (by simp; rfl) ?_ ?_ <;> (intro hb; first | (exfalso; exact absurd hb (by decide)) | skip)))
    refine ⟨.inr trivial, ?_⟩
    simp [Tryd.results21]
  · intro _
    repeat' (first | refine GW_seq ?_ | simp only [List.length_cons, List.length_nil, Nat.reduceAdd, Nat.reduceMul, wN] | ((first | refine GW_region' [] (by kernel_rfl) ?_ | refine GW_draw' [] follows (by kernel_rfl) (by kernel_rfl) ?_); intro Q hQ hP; simp [hC, hY, hs]; (first | refine hQ _ _ _ _ ?_ | refine hQ _ _ _ _ (by kernel_rfl) ?_ | refine hP _ _ (fun _ => ?_) | refine hP _ _ (by kernel_rfl) (fun _ => ?_)); clear hQ hP Q) | refine GW_block ?_ | refine GW_ret ?_ | refine GW_skip ?_ | refine GW_exit ?_ | refine GW_goto ?_ | refine GW_label ?_ | simp only [blockG_exit] | (refine GW_cond (by simp; rfl) ?_ ?_ <;> (intro hb; first | (exfalso; exact absurd hb (by decide)) | skip)))
    refine ⟨rfl, _, 0, weakL _ 600 hC G0F (m0 := []) hC0 (by omega) ?_ ?_ ?_, rfl⟩
    · simp [idsV, idsA, idsF, ids0, dom]
    · simp [ids_lit, idsF, ids0, dom]
    · simp
@[simp] theorem driftN (st p q : Int) (hs : i64 st) (K : Value → Prop) : callK Tryd.prog G0 21 #[.agg #[.int .i64 st, .slice none 0 0], .int .i64 p, .int .i64 q] K ↔ K (.tuple #[.agg #[.int .i64 st, .slice none 0 0], .int .i64 2]) := callK_iff G0W (by kernel_rfl) (drift_nil st p q hs)
theorem drift15_nil (st p q : Int) : FunS Tryd.prog G0 22 #[.agg #[.int .i64 st, .slice none 0 0], .int .i64 p, .int .i64 q] (hpL G0 []) (keys []) (DriftR 1000 st 0 (fun _ => 0) 2) := by
  refine newS_ofL (B := 200) G0F Tryd.func22 rfl Tryd.call22 nilL_ok ?_ ?_ (by simp [Tryd.ntmps22]) (by omega) ?_
  · simp [idsV, idsA, idsF, ids0, keys]
  · rintro v ns ⟨v0, ⟨c, M, g, h1, h2, h3, rfl, rfl⟩, rfl⟩
    refine ⟨by simp [idsV, idsA, idsF, ids0, extD, keys], ?_, ?_⟩
    · simp only [List.mem_singleton, forall_eq]
      exact ⟨by omega, Blk.fx_ids (fa_fx _ _ _) _⟩
    · intro k b c h1 h2
      simp at h1 h2
      rw [h1.2, h2.2]
  intro C hC hC0 hY
  repeat' (first | refine GW_seq ?_ | simp only [List.length_cons, List.length_nil, Nat.reduceAdd, Nat.reduceMul, wN] | ((first | refine GW_region' [] (by kernel_rfl) ?_ | refine GW_draw' [] follows (by kernel_rfl) (by kernel_rfl) ?_); intro Q hQ hP; simp [hC, hY]; (first | refine hQ _ _ _ _ ?_ | refine hQ _ _ _ _ (by kernel_rfl) ?_ | refine hP _ _ (fun _ => ?_) | refine hP _ _ (by kernel_rfl) (fun _ => ?_)); clear hQ hP Q) | refine GW_block ?_ | refine GW_ret ?_ | refine GW_skip ?_ | refine GW_exit ?_ | refine GW_goto ?_ | refine GW_label ?_ | simp only [blockG_exit] | (refine GW_cond (by simp; rfl) ?_ ?_ <;> (intro hb; first | (exfalso; exact absurd hb (by decide)) | skip)))
  refine GW_list ?_
  simp only [Array.toList]
  refine GL_walk 1 [] rfl (by simp) (by kernel_rfl) ?_; intro q hq; simp [hC, hY]; refine hq _ _ _ _ ?_; clear hq q
  simp only [wT, List.length_cons, List.length_nil, Nat.reduceAdd]
  refine GL_callL (f := .func 39) (cap := #[]) hC (own10_nil_at 320 (by omega) st) rfl (by simp) rfl rfl (by simp [okT]) (by simp [gev]) (by simp) (by simp [okX, junk]) (by simp [gev]) (by simp) (by (intro k hk; first | rfl | (simp (disch := omega) only [addB, List.mem_cons, List.not_mem_nil, or_false, upd_other, hpL_cons, hpL_nil, if_neg, updL] <;> done))) ?_ ?_
  · rintro v ns ⟨c3, M3, g3, k1, k2, k3, rfl, rfl⟩
    simp [keys]
  rintro v ns ⟨c3, M3, g3, k1, k2, k3, rfl, rfl⟩
  refine GL_walk 3 [] rfl (by simp) (by kernel_rfl) ?_; intro q hq; simp [hC, hY, putT, updL]; refine hq _ _ _ _ ?_; clear hq q
  simp only [wT, List.length_cons, List.length_nil, Nat.reduceAdd]
  refine GL_nil ?_
  repeat' (first | refine GW_seq ?_ | simp only [List.length_cons, List.length_nil, Nat.reduceAdd, Nat.reduceMul, wN] | ((first | refine GW_region' [] (by kernel_rfl) ?_ | refine GW_draw' [] follows (by kernel_rfl) (by kernel_rfl) ?_); intro Q hQ hP; simp [hC, hY]; (first | refine hQ _ _ _ _ ?_ | refine hQ _ _ _ _ (by kernel_rfl) ?_ | refine hP _ _ (fun _ => ?_) | refine hP _ _ (by kernel_rfl) (fun _ => ?_)); clear hQ hP Q) | refine GW_block ?_ | refine GW_ret ?_ | refine GW_skip ?_ | refine GW_exit ?_ | refine GW_goto ?_ | refine GW_label ?_ | simp only [blockG_exit] | (refine GW_cond (by simp; rfl) ?_ ?_ <;> (intro hb; first | (exfalso; exact absurd hb (by decide)) | skip)))
  refine ⟨.inr trivial, keep_of G0F (by simp) (by (intro k hk; first | rfl | (simp (disch := omega) only [addB, List.mem_cons, List.not_mem_nil, or_false, upd_other, hpL_cons, hpL_nil, if_neg, updL] <;> done))), _, _, fun k => if k = 1000 then 320 else k, ⟨_, ⟨c3, M3, g3, k1, k2, k3, rfl, rfl⟩, rfl⟩, fun k hk => if_neg (by omega), by simp, by simp, ?_, ?_⟩
  · simp [Tryd.results22, ren, renA, renF, ren0]
  · simp [fa_rn]
theorem drift15_nil_at (nk : Nat) (hnk : 200 ≤ nk) (st p q : Int) : FunS Tryd.prog G0 22 #[.agg #[.int .i64 st, .slice none 0 0], .int .i64 p, .int .i64 q] (hpL G0 []) [] (DriftR nk st 0 (fun _ => 0) 2) := by
  have h0 := (drift15_nil st p q).rn (fun k => if k = 1000 then nk else k) G0F nilL_ok.low (hp' := hpL G0 []) (rn_ofL nilL_ok _ (fun k hk => if_neg (by omega)) nilL_ok.low (by simp) (by simp [keys])) (fun v ns hR k hk => by
    rw [driftR_key hR k hk]
    refine ⟨by simp; omega, fun hd => hd ?_⟩
    simp [rst, keys]
    intro h4
    omega) (fun v ns hR k hk l hl _ => by rw [driftR_key hR k hk, driftR_key hR l hl])
  rw [driftR_rr (ρ := fun k => if k = 1000 then nk else k) (nk' := nk) (by simp)] at h0
  simpa [keys, ren, renA, renF, ren0] using h0
theorem same_nil (b' : Blk) (c' : Nat) (hb : b'.fx) (st : Int) :
    Fun Tryd.prog G0 24 #[.agg #[.int .i64 st, .slice none 0 0], .agg #[.int .i64 st, .slice (some ⟨100, 0, none⟩) 0 c']] (hpL G0 [(100, b')]) (keys [(100, b')]) (.ret (.bool true) []) := by
  refine fun_ofL (B := 200) G0F Tryd.func24 rfl Tryd.call24 (oneL_ok hb) ?_ (by simp) (by simp) (by simp) (by simp [Tryd.ntmps24]) (by omega) ?_
  · simp [idsV, idsA, idsF, ids0, keys]
  intro C hC hC0 hY
  repeat' (first | refine GW_seq ?_ | refine GWL_start ?_ | refine GWL_step ?_ | simp only [List.length_cons, List.length_nil, Nat.reduceAdd, Nat.reduceMul, wN] | ((first | refine GW_region' [] (by kernel_rfl) ?_ | refine GW_draw' [] follows (by kernel_rfl) (by kernel_rfl) ?_); intro Q hQ hP; simp [hC, hY]; (first | refine hQ _ _ _ _ ?_ | refine hQ _ _ _ _ (by kernel_rfl) ?_ | refine hP _ _ (fun _ => ?_) | refine hP _ _ (by kernel_rfl) (fun _ => ?_)); clear hQ hP Q) | refine GW_block ?_ | refine GW_ret ?_ | refine GW_skip ?_ | refine GW_exit ?_ | refine GW_goto ?_ | refine GW_label ?_ | simp only [blockG_exit] | (refine GW_cond (by simp; rfl) ?_ ?_ <;> (intro hb; first | (exfalso; exact absurd hb (by decide)) | skip)))
  refine ⟨.inr rfl, by simp [Tryd.results24], keep_of G0F (by simp) (by (intro k hk; first | rfl | (simp (disch := omega) only [addB, List.mem_cons, List.not_mem_nil, or_false, upd_other, hpL_cons, hpL_nil, if_neg, updL] <;> done)))⟩
end Go.Gy
