/-
  Lemmas of this claim, in their order (GyWG, GyWH, GyWK, GyLC, GyWL, GyWM, GyWN, GyH).
  Conditions: those of each theorem.
-/
import Derived.Test.YteoefgffimgcmaaDoorGz05
import Derived.Test.YteoefgffimgcmaaDoorCards
import Derived.Test.YteoefgffimgcmaaDoorTie
import Derived.WalkKit
import Derived.ProofKit
import Derived.OpenShut
import Derived.Below
import Derived.ChangeSame
import Derived.Deep.DeepHandedRow
import Derived.Lib.LaidTab
namespace Go.Gy
set_option linter.unusedSimpArgs false
set_option linter.unusedVariables false
open Go Go.RowKit Go.Proofs
theorem vecR_rr {nk nk' n : Nat} {G : Nat → Int} {ρ : Nat → Nat} (h : ρ nk = nk') : RR ρ (VecR nk n G) = VecR nk' n G := by
  funext v ns
  apply propext
  constructor
  · rintro ⟨v0, ns0, hV, rfl, rfl⟩
    rcases hV with ⟨h1, rfl, rfl⟩ | ⟨c, g, h1, h2, h3, rfl, rfl⟩
    · exact .inl ⟨h1, by simp [ren, renA, renF, ren0], by simp [rnL]⟩
    · exact .inr ⟨c, g, h1, h2, h3, by simp [ren, renA, renF, ren0, h], by simp [rnL, fa_rn, h]⟩
  · rintro (⟨h1, rfl, rfl⟩ | ⟨c, g, h1, h2, h3, rfl, rfl⟩)
    · exact ⟨_, _, .inl ⟨h1, rfl, rfl⟩, by simp [ren, renA, renF, ren0], by simp [rnL]⟩
    · exact ⟨_, _, .inr ⟨c, g, h1, h2, h3, rfl, rfl⟩, by simp [ren, renA, renF, ren0, h], by simp [rnL, fa_rn, h]⟩
theorem vecR_key {nk n : Nat} {G : Nat → Int} {v : Value} {ns : List (Nat × Blk)} (h : VecR nk n G v ns) : ∀ k ∈ keys ns, k = nk := by
  rcases h with ⟨h1, rfl, rfl⟩ | ⟨c, g, h1, h2, h3, rfl, rfl⟩ <;> simp [keys]
theorem stB'_rn {st : Int} {k off n cap : Nat} {ρ : Nat → Nat} : (stB' st k off n cap).rn ρ = stB' st (ρ k) off n cap := by simp [stB', Blk.rn, renF, ren0]
theorem fnB_rn {k l : Nat} {ρ : Nat → Nat} : (fnB k l).rn ρ = fnB (ρ k) (ρ l) := by simp [fnB, Blk.rn, renF, ren0]
theorem seq_at (nk : Nat) (hnk : 200 ≤ nk) (b : Blk) (off n cap : Nat) (f : Nat → Int) (h : SB b off n f) (st p q : Int) (hp : i64 p) (hq : i64 q) :
    FunS Tryd.prog G0 78 #[.slice none 0 0, .func (.func 80) #[] #[.pointer (some ⟨100, 0, none⟩), .pointer (some ⟨108, 0, none⟩)]] (hpL G0 (wyL b st off n cap p q)) (keys (wyL b st off n cap p q)) (VecR nk n (vecsG f p q)) := by
  have hL := wyL_ok h.fx st off n cap p q
  have hr := fun ρ => Blk.fx_rn h.fx ρ
  refine (seq_fun b off n cap f h st p q hp hq).mvL G0F hL (fun k => if k = 1000 then nk else k) (fun k hk => if_neg (by omega)) (by simp [ren, renA, renF, ren0]) (by simp [wyL, keys]) (vecR_rr rfl) hL.low (by simp [wyL, stB'_rn, fnB_rn, jb_rn, hr]) (by simp [wyL, keys]) (fun v ns hV k hk => ?_) (fun v ns hV k hk l hl _ => by rw [vecR_key hV k hk, vecR_key hV l hl])
  rw [vecR_key hV k hk]
  simp [wyL, keys]
  omega
theorem col_fun (b : Blk) (off n cap : Nat) (f : Nat → Int) (h : SB b off n f) (st p q : Int) (hp : i64 p) (hq : i64 q) :
    FunS Tryd.prog G0 45 #[.func (.func 80) #[] #[.pointer (some ⟨100, 0, none⟩), .pointer (some ⟨108, 0, none⟩)]] (hpL G0 (wyL b st off n cap p q)) (keys (wyL b st off n cap p q)) (VecR 1000 n (vecsG f p q)) := by
  have hL := wyL_ok h.fx st off n cap p q
  refine newS_ofL (B := 200) G0F Tryd.func45 rfl Tryd.call45 hL ?_ (vec_fit (by omega)) (by simp [Tryd.ntmps45]) (by omega) ?_
  · simp [idsV, idsA, idsF, ids0, keys, wyL]
  intro C hC hC0 hY
  repeat' (first | refine GW_seq ?_ | simp only [List.length_cons, List.length_nil, Nat.reduceAdd, Nat.reduceMul, wN] | ((first | refine GW_region' [] (by kernel_rfl) ?_ | refine GW_draw' [] follows (by kernel_rfl) (by kernel_rfl) ?_); intro Q hQ hP; simp [hC, hY]; (first | refine hQ _ _ _ _ ?_ | refine hQ _ _ _ _ (by kernel_rfl) ?_ | refine hP _ _ (fun _ => ?_) | refine hP _ _ (by kernel_rfl) (fun _ => ?_)); clear hQ hP Q) | refine GW_block ?_ | refine GW_ret ?_ | refine GW_skip ?_ | refine GW_exit ?_ | refine GW_goto ?_ | refine GW_label ?_ | simp only [blockG_exit] | (refine GW_cond (by simp; rfl) ?_ ?_ <;> (intro hb; first | (exfalso; exact absurd hb (by decide)) | skip)))
  refine GW_list ?_
  simp only [Array.toList]
  refine GL_walk 1 [] rfl (by simp) (by kernel_rfl) ?_; intro q hq; simp [hC, hY]; refine hq _ _ _ _ ?_; clear hq q
  simp only [wT, List.length_cons, List.length_nil, Nat.reduceAdd]
  have hS := seq_at 216 (by omega) b off n cap f h st p q hp hq
  refine GL_callL (f := .func 78) (cap := #[]) hC hS rfl (by simp) rfl rfl (by simp [okT]) (by simp [gev]) (by simp) (by simp [okX, junk]) (by simp [gev]) (by simp) (by intro k hk; rfl) ?_ ?_
  · intro v ns hV k hk
    rw [vecR_key hV k hk]
    omega
  · intro v ns hV
    rcases hV with ⟨rfl, rfl, rfl⟩ | ⟨c, g, hi0, hic, hg, rfl, rfl⟩
    ·
      refine GL_walk 1 [] rfl (by simp) (by kernel_rfl) ?_; intro q hq; simp [hC, hY, putT, updL]; refine hq _ _ _ _ ?_; clear hq q
      simp only [wT, List.length_cons, List.length_nil, Nat.reduceAdd]
      refine GL_nil ?_
      repeat' (first | refine GW_seq ?_ | simp only [List.length_cons, List.length_nil, Nat.reduceAdd, Nat.reduceMul, wN] | ((first | refine GW_region' [] (by kernel_rfl) ?_ | refine GW_draw' [] follows (by kernel_rfl) (by kernel_rfl) ?_); intro Q hQ hP; simp [hC, hY]; (first | refine hQ _ _ _ _ ?_ | refine hQ _ _ _ _ (by kernel_rfl) ?_ | refine hP _ _ (fun _ => ?_) | refine hP _ _ (by kernel_rfl) (fun _ => ?_)); clear hQ hP Q) | refine GW_block ?_ | refine GW_ret ?_ | refine GW_skip ?_ | refine GW_exit ?_ | refine GW_goto ?_ | refine GW_label ?_ | simp only [blockG_exit] | (refine GW_cond (by simp; rfl) ?_ ?_ <;> (intro hb; first | (exfalso; exact absurd hb (by decide)) | skip)))
      refine ⟨.inr trivial, by simp, _, _, fun k => k, .inl ⟨rfl, rfl, rfl⟩, fun _ _ => rfl, by simp, by simp, by simp [Tryd.results45, ren, renA, renF, ren0], by simp⟩
    ·
      refine GL_walk 1 [] rfl (by simp) (by kernel_rfl) ?_; intro q hq; simp [hC, hY, putT, updL]; refine hq _ _ _ _ ?_; clear hq q
      simp only [wT, List.length_cons, List.length_nil, Nat.reduceAdd]
      refine GL_nil ?_
      repeat' (first | refine GW_seq ?_ | simp only [List.length_cons, List.length_nil, Nat.reduceAdd, Nat.reduceMul, wN] | ((first | refine GW_region' [] (by kernel_rfl) ?_ | refine GW_draw' [] follows (by kernel_rfl) (by kernel_rfl) ?_); intro Q hQ hP; simp [hC, hY]; (first | refine hQ _ _ _ _ ?_ | refine hQ _ _ _ _ (by kernel_rfl) ?_ | refine hP _ _ (fun _ => ?_) | refine hP _ _ (by kernel_rfl) (fun _ => ?_)); clear hQ hP Q) | refine GW_block ?_ | refine GW_ret ?_ | refine GW_skip ?_ | refine GW_exit ?_ | refine GW_goto ?_ | refine GW_label ?_ | simp only [blockG_exit] | (refine GW_cond (by simp; rfl) ?_ ?_ <;> (intro hb; first | (exfalso; exact absurd hb (by decide)) | skip)))
      refine ⟨.inr trivial, keep_of G0F (fun pp hpp => ?_) (fun k hk => by rw [upd_other _ _ (by omega)]), _, _, fun k => if k = 1000 then 216 else k, .inr ⟨c, g, hi0, hic, hg, rfl, rfl⟩, fun k hk => if_neg (by omega), by simp, by simp, by simp [Tryd.results45, ren, renA, renF, ren0], by simp [fa_rn]⟩
      have := (hL.big pp hpp).2
      rw [upd_other _ _ (by omega)]
end Go.Gy
namespace Go.Gy
set_option linter.unusedSimpArgs false
set_option linter.unusedVariables false
open Go Go.RowKit Go.Proofs
theorem wayR_rr {nk nk' off n cap : Nat} {st p q : Int} {ρ : Nat → Nat} (h100 : ρ 100 = 100) (h0 : ρ nk = nk') (h1 : ρ (nk + 1) = nk' + 1) (h2 : ρ (nk + 2) = nk' + 2) (h3 : ρ (nk + 3) = nk' + 3) : RR ρ (WayR nk st off n cap p q) = WayR nk' st off n cap p q := by
  funext v ns
  apply propext
  constructor
  · rintro ⟨v0, ns0, ⟨rfl, rfl⟩, rfl, rfl⟩
    exact ⟨by simp [ren, renA, renF, ren0, h0, h3], by simp [rnL, wayNs, stB'_rn, fnB_rn, jb_rn, h100, h0, h1, h2, h3]⟩
  · rintro ⟨rfl, rfl⟩
    exact ⟨_, _, ⟨rfl, rfl⟩, by simp [ren, renA, renF, ren0, h0, h3], by simp [rnL, wayNs, stB'_rn, fnB_rn, jb_rn, h100, h0, h1, h2, h3]⟩
/-- Where a new name stands for a block of a list from 1000 on. -/
def up4 (nk k : Nat) : Nat := if 1000 ≤ k then (if k < 1004 then k - 1000 + nk else k) else k
theorem ways_at (nk : Nat) (hnk : 200 ≤ nk) (b : Blk) (off n cap : Nat) (hb : b.fx) (st p q : Int) :
    FunS Tryd.prog G0 46 #[.agg #[.int .i64 st, .slice (some ⟨100, off, none⟩) n cap], .int .i64 p, .int .i64 q] (hpL G0 [(100, b)]) [100] (WayR nk st off n cap p q) := by
  have e4 : ∀ j, j < 4 → up4 nk (1000 + j) = nk + j := fun j hj => by unfold up4; rw [if_pos (by omega), if_pos (by omega)]; omega
  have e100 : up4 nk 100 = 100 := by simp [up4]
  have hr := fun ρ => Blk.fx_rn hb ρ
  have hk4 : ∀ v ns, WayR 1000 st off n cap p q v ns → ∀ k ∈ keys ns, ∃ j, j < 4 ∧ k = 1000 + j := by
    rintro v ns ⟨rfl, rfl⟩ k hk
    simp [keys, wayNs] at hk
    rcases hk with rfl | rfl | rfl | rfl
    · exact ⟨0, by omega, rfl⟩
    · exact ⟨1, by omega, rfl⟩
    · exact ⟨2, by omega, rfl⟩
    · exact ⟨3, by omega, rfl⟩
  refine (ways_fun b off n cap hb st p q).mvL G0F (oneL_ok hb) (up4 nk) (fun k hk => by unfold up4; rw [if_neg (by omega)]) (by simp [ren, renA, renF, ren0, e100]) (by simp [keys, e100]) (wayR_rr e100 (e4 0 (by omega)) (e4 1 (by omega)) (e4 2 (by omega)) (e4 3 (by omega))) (oneL_ok hb).low (by simp [e100, hr]) (by simp [keys]) (fun v ns hV k hk => ?_) (fun v ns hV k hk l hl e => ?_)
  · obtain ⟨j, hj, rfl⟩ := hk4 v ns hV k hk
    rw [e4 j hj]
    simp
    omega
  · obtain ⟨j, hj, rfl⟩ := hk4 v ns hV k hk
    obtain ⟨i, hi, rfl⟩ := hk4 v ns hV l hl
    rw [e4 j hj, e4 i hi] at e
    omega
theorem wayR_key {nk off n cap : Nat} {st p q : Int} {v : Value} {ns : List (Nat × Blk)} (h : WayR nk st off n cap p q v ns) : ∀ k ∈ keys ns, nk ≤ k ∧ k < nk + 4 := by
  obtain ⟨rfl, rfl⟩ := h
  intro k hk
  simp [keys, wayNs] at hk
  omega
/-- The names of the drifts' blocks at a caller's: nk.. stand there; 100 holds the bodies. -/
def dnk (nk nv k : Nat) : Nat := if k = 100 then nk else if k = 108 then nk + 3 else if k = 116 then 100 else if k = 124 then nk + 1 else if k = 132 then nk + 2 else if k = 1000 then nv else k
theorem dnk_low {nk nv : Nat} (k : Nat) (hk : k < 100) : dnk nk nv k = k := by
  unfold dnk
  rw [if_neg (by omega), if_neg (by omega), if_neg (by omega), if_neg (by omega), if_neg (by omega), if_neg (by omega)]
theorem col_at (nk nv : Nat) (hnk : 200 ≤ nk) (hnv : nk + 4 ≤ nv) (b : Blk) (off n cap : Nat) (f : Nat → Int) (h : SB b off n f) (st p q : Int) (hp : i64 p) (hq : i64 q) :
    FunS Tryd.prog G0 45 #[.func (.func 80) #[] #[.pointer (some ⟨nk, 0, none⟩), .pointer (some ⟨nk + 3, 0, none⟩)]] (hpL G0 ((100, b) :: wayNs nk st off n cap p q)) [nk, nk + 3, 100, nk + 1, nk + 2] (VecR nv n (vecsG f p q)) := by
  have hr := fun ρ => Blk.fx_rn h.fx ρ
  have d0 : dnk nk nv 100 = nk := by simp [dnk]
  have d1 : dnk nk nv 108 = nk + 3 := by simp [dnk]
  have d2 : dnk nk nv 116 = 100 := by simp [dnk]
  have d3 : dnk nk nv 124 = nk + 1 := by simp [dnk]
  have d4 : dnk nk nv 132 = nk + 2 := by simp [dnk]
  have d5 : dnk nk nv 1000 = nv := by simp [dnk]
  have n0 : ¬ nk = 100 := by omega
  refine (col_fun b off n cap f h st p q hp hq).mvL G0F (wyL_ok h.fx st off n cap p q) (dnk nk nv) dnk_low (by simp [ren, renA, renF, ren0, d0, d1]) (by simp [wyL, keys, d0, d1, d2, d3, d4]) (vecR_rr d5) ?_ ?_ ?_ (fun v ns hV k hk => ?_) (fun v ns hV k hk l hl _ => by rw [vecR_key hV k hk, vecR_key hV l hl])
  · intro k hk
    simp (disch := omega) only [wayNs, hpL_cons, hpL_nil, if_neg]
  · simp [wyL, wayNs, d0, d1, d2, d3, d4, stB'_rn, fnB_rn, jb_rn, hr, n0]
    omega
  · simp [wyL, keys, d0, d1, d2, d3, d4]
    omega
  · rw [vecR_key hV k hk, d5]
    simp
    omega
/-- What Ways hands back. -/
def WaysR (nk n : Nat) (G : Nat → Int) (ok : Bool) (v : Value) (ns : List (Nat × Blk)) : Prop := ∃ v0, VecR nk (if ok = true then n else 0) G v0 ns ∧ v = .tuple #[v0, .int .i64 (if ok = true then 0 else 2)]
theorem waysR_fit {D : Nat → Prop} {nk n B : Nat} {G : Nat → Int} {ok : Bool} (hB : B ≤ nk) (v : Value) (ns : List (Nat × Blk)) (h : WaysR nk n G ok v ns) : idsV (extD D ns) v ∧ (∀ p ∈ ns, B ≤ p.1 ∧ p.2.ids (extD D ns)) ∧ (∀ k b c, (k, b) ∈ ns → (k, c) ∈ ns → b = c) := by
  obtain ⟨v0, hV, rfl⟩ := h
  obtain ⟨f1, f2, f3⟩ := vec_fit (D := D) hB v0 ns hV
  refine ⟨?_, f2, f3⟩
  rcases hV with ⟨h1, rfl, rfl⟩ | ⟨c, g, h1, h2, h3, rfl, rfl⟩
  · simp [idsV, idsA, idsF, ids0]
  · simp [idsV, idsA, idsF, ids0, extD, keys]
theorem dWays_fun (b : Blk) (off n cap : Nat) (f : Nat → Int) (h : SB b off n f) (st p q : Int) (hs : i64 st) (hp : i64 p) (hq : i64 q) :
    FunS Tryd.prog G0 19 #[.agg #[.int .i64 st, .slice (some ⟨100, off, none⟩) n cap], .int .i64 p, .int .i64 q] (hpL G0 [(100, b)]) (keys [(100, b)]) (WaysR 1000 n (vecsG f p q) (rightB st f n && partB p q)) := by
  refine newS_ofL (B := 200) G0F Tryd.func19 rfl Tryd.call19 (oneL_ok h.fx) ?_ (waysR_fit (by omega)) (by simp [Tryd.ntmps19]) (by omega) ?_
  · simp [idsV, idsA, idsF, ids0, keys]
  intro C hC hC0 hY
  have hr := fun ρ => Blk.fx_rn h.fx ρ
  cases c0 : rightB st f n with
  | false =>
    repeat' (first | refine GW_seq ?_ | simp only [List.length_cons, List.length_nil, Nat.reduceAdd, Nat.reduceMul, wN] | ((first | refine GW_region' [44] (by kernel_rfl) ?_ | refine GW_draw' [44] follows (by kernel_rfl) (by kernel_rfl) ?_); intro Q hQ hP; simp [hC, hY, hp, c0]; (repeat ((first | (refine heapK_mv (rig_fun b off n cap f h st hs) G0F (B := 200) (oneL_ok h.fx) (fun k => k) (fun k hk => rfl) (by simp [ren, renA, renF, ren0]) (by simp) (by simp [hr]) (by simp [keys]) (by simp [keys]; rfl) ?_)); try simp [hC, hY, hp, c0])); (first | refine hQ _ _ _ _ ?_ | refine hQ _ _ _ _ (by kernel_rfl) ?_ | refine hP _ _ (fun _ => ?_) | refine hP _ _ (by kernel_rfl) (fun _ => ?_)); clear hQ hP Q) | refine GW_block ?_ | refine GW_ret ?_ | refine GW_skip ?_ | refine GW_exit ?_ | refine GW_goto ?_ | refine GW_label ?_ | simp only [blockG_exit] | (refine GW_cond (by simp; rfl) ?_ ?_ <;> (intro hb; first | (exfalso; exact absurd hb (by decide)) | skip)))
    refine ⟨.inr trivial, keep_of G0F (by simp) (by (intro k hk; first | rfl | (simp (disch := omega) only [addB, List.mem_cons, List.not_mem_nil, or_false, upd_other, hpL_cons, hpL_nil, if_neg, updL] <;> done))), _, _, fun k => k, ⟨_, .inl ⟨by simp, rfl, rfl⟩, rfl⟩, fun _ _ => rfl, by simp, by simp, by simp [Tryd.results19, ren, renA, renF, ren0], by simp⟩
  | true =>
    cases c1 : partB p q with
    | false =>
      repeat' (first | refine GW_seq ?_ | simp only [List.length_cons, List.length_nil, Nat.reduceAdd, Nat.reduceMul, wN] | ((first | refine GW_region' [44] (by kernel_rfl) ?_ | refine GW_draw' [44] follows (by kernel_rfl) (by kernel_rfl) ?_); intro Q hQ hP; simp [hC, hY, hp, c0, c1]; (repeat ((first | (refine heapK_mv (rig_fun b off n cap f h st hs) G0F (B := 200) (oneL_ok h.fx) (fun k => k) (fun k hk => rfl) (by simp [ren, renA, renF, ren0]) (by simp) (by simp [hr]) (by simp [keys]) (by simp [keys]; rfl) ?_)); try simp [hC, hY, hp, c0, c1])); (first | refine hQ _ _ _ _ ?_ | refine hQ _ _ _ _ (by kernel_rfl) ?_ | refine hP _ _ (fun _ => ?_) | refine hP _ _ (by kernel_rfl) (fun _ => ?_)); clear hQ hP Q) | refine GW_block ?_ | refine GW_ret ?_ | refine GW_skip ?_ | refine GW_exit ?_ | refine GW_goto ?_ | refine GW_label ?_ | simp only [blockG_exit] | (refine GW_cond (by simp; rfl) ?_ ?_ <;> (intro hb; first | (exfalso; exact absurd hb (by decide)) | skip)))
      refine ⟨.inr trivial, keep_of G0F (by simp) (by (intro k hk; first | rfl | (simp (disch := omega) only [addB, List.mem_cons, List.not_mem_nil, or_false, upd_other, hpL_cons, hpL_nil, if_neg, updL] <;> done))), _, _, fun k => k, ⟨_, .inl ⟨by simp, rfl, rfl⟩, rfl⟩, fun _ _ => rfl, by simp, by simp, by simp [Tryd.results19, ren, renA, renF, ren0], by simp⟩
    | true =>
      repeat' (first | refine GW_seq ?_ | simp only [List.length_cons, List.length_nil, Nat.reduceAdd, Nat.reduceMul, wN] | ((first | refine GW_region' [44] (by kernel_rfl) ?_ | refine GW_draw' [44] follows (by kernel_rfl) (by kernel_rfl) ?_); intro Q hQ hP; simp [hC, hY, hp, c0, c1]; (repeat ((first | (refine heapK_mv (rig_fun b off n cap f h st hs) G0F (B := 200) (oneL_ok h.fx) (fun k => k) (fun k hk => rfl) (by simp [ren, renA, renF, ren0]) (by simp) (by simp [hr]) (by simp [keys]) (by simp [keys]; rfl) ?_)); try simp [hC, hY, hp, c0, c1])); (first | refine hQ _ _ _ _ ?_ | refine hQ _ _ _ _ (by kernel_rfl) ?_ | refine hP _ _ (fun _ => ?_) | refine hP _ _ (by kernel_rfl) (fun _ => ?_)); clear hQ hP Q) | refine GW_block ?_ | refine GW_ret ?_ | refine GW_skip ?_ | refine GW_exit ?_ | refine GW_goto ?_ | refine GW_label ?_ | simp only [blockG_exit] | (refine GW_cond (by simp; rfl) ?_ ?_ <;> (intro hb; first | (exfalso; exact absurd hb (by decide)) | skip)))
      refine GW_list ?_
      simp only [Array.toList]
      refine GL_walk 3 [] rfl (by simp) (by kernel_rfl) ?_; intro q hq; simp [hC, hY]; refine hq _ _ _ _ ?_; clear hq q
      simp only [wT, List.length_cons, List.length_nil, Nat.reduceAdd]
      refine GL_callL (f := .func 46) (cap := #[]) hC (ways_at 320 (by omega) b off n cap h.fx st p q) rfl (by simp) rfl rfl (by simp [okT]) (by simp [gev]) (by simp) (by simp [okX, junk]) (by simp [gev]) (by simp) (by (intro k hk; first | rfl | (simp (disch := omega) only [addB, List.mem_cons, List.not_mem_nil, or_false, upd_other, hpL_cons, hpL_nil, if_neg, updL] <;> done))) (fun v ns hV k hk => by have := wayR_key hV k hk; omega) ?_
      rintro v ns ⟨rfl, rfl⟩
      refine GL_callL (f := .func 45) (cap := #[]) hC (col_at 320 328 (by omega) (by omega) b off n cap f h st p q hp hq) rfl (by simp) rfl rfl (by simp [okT]) (by simp [gev]) (by simp) (by simp [okX, putT, junk]) (by simp [gev, putT]) ?_ ?_ (fun v ns hV k hk => by have := vecR_key hV k hk; omega) ?_
      · simp [wayNs, updL]
      · intro k hk
        simp (disch := omega) only [wayNs, updL, upd_other, hpL_cons, hpL_nil, if_neg]
      intro v ns hV
      rcases hV with ⟨rfl, rfl, rfl⟩ | ⟨c, g, hi0, hic, hg, rfl, rfl⟩
      ·
        refine GL_walk 2 [] rfl (by simp) (by kernel_rfl) ?_; intro q hq; simp [hC, hY, putT, updL, wayNs]; refine hq _ _ _ _ ?_; clear hq q
        simp only [wT, List.length_cons, List.length_nil, Nat.reduceAdd]
        refine GL_nil ?_
        repeat' (first | refine GW_seq ?_ | simp only [List.length_cons, List.length_nil, Nat.reduceAdd, Nat.reduceMul, wN] | ((first | refine GW_region' [] (by kernel_rfl) ?_ | refine GW_draw' [] follows (by kernel_rfl) (by kernel_rfl) ?_); intro Q hQ hP; simp [hC, hY]; (first | refine hQ _ _ _ _ ?_ | refine hQ _ _ _ _ (by kernel_rfl) ?_ | refine hP _ _ (fun _ => ?_) | refine hP _ _ (by kernel_rfl) (fun _ => ?_)); clear hQ hP Q) | refine GW_block ?_ | refine GW_ret ?_ | refine GW_skip ?_ | refine GW_exit ?_ | refine GW_goto ?_ | refine GW_label ?_ | simp only [blockG_exit] | (refine GW_cond (by simp; rfl) ?_ ?_ <;> (intro hb; first | (exfalso; exact absurd hb (by decide)) | skip)))
        refine ⟨.inr trivial, keep_of G0F (by simp) (by (intro k hk; first | rfl | (simp (disch := omega) only [addB, List.mem_cons, List.not_mem_nil, or_false, upd_other, hpL_cons, hpL_nil, if_neg, updL] <;> done))), _, _, fun k => k, ⟨_, .inl ⟨by simp, rfl, rfl⟩, rfl⟩, fun _ _ => rfl, by simp, by simp, by simp [Tryd.results19, ren, renA, renF, ren0], by simp⟩
      ·
        refine GL_walk 2 [] rfl (by simp) (by kernel_rfl) ?_; intro q hq; simp [hC, hY, putT, updL, wayNs]; refine hq _ _ _ _ ?_; clear hq q
        simp only [wT, List.length_cons, List.length_nil, Nat.reduceAdd]
        refine GL_nil ?_
        repeat' (first | refine GW_seq ?_ | simp only [List.length_cons, List.length_nil, Nat.reduceAdd, Nat.reduceMul, wN] | ((first | refine GW_region' [] (by kernel_rfl) ?_ | refine GW_draw' [] follows (by kernel_rfl) (by kernel_rfl) ?_); intro Q hQ hP; simp [hC, hY]; (first | refine hQ _ _ _ _ ?_ | refine hQ _ _ _ _ (by kernel_rfl) ?_ | refine hP _ _ (fun _ => ?_) | refine hP _ _ (by kernel_rfl) (fun _ => ?_)); clear hQ hP Q) | refine GW_block ?_ | refine GW_ret ?_ | refine GW_skip ?_ | refine GW_exit ?_ | refine GW_goto ?_ | refine GW_label ?_ | simp only [blockG_exit] | (refine GW_cond (by simp; rfl) ?_ ?_ <;> (intro hb; first | (exfalso; exact absurd hb (by decide)) | skip)))
        refine ⟨.inr trivial, keep_of G0F (by simp) (by (intro k hk; first | rfl | (simp (disch := omega) only [addB, List.mem_cons, List.not_mem_nil, or_false, upd_other, hpL_cons, hpL_nil, if_neg, updL] <;> done))), _, _, fun k => if k = 1000 then 328 else k, ⟨_, .inr ⟨c, g, by simpa using hi0, by simpa using hic, by simpa using hg, by simp; rfl, rfl⟩, rfl⟩, fun k hk => if_neg (by omega), by simp, by simp, by simp [Tryd.results19, ren, renA, renF, ren0], by simp [fa_rn]⟩
end Go.Gy
namespace Go.Gy
open Go Go.RowKit Go.Proofs
/-- Body i, gone on, is within. -/
def okB (f : Nat → Int) (p q : Int) (i : Nat) : Bool := inV 1048576 (f (6 * i) + dwV f p q i 0) (f (6 * i + 1) + dwV f p q i 1) (f (6 * i + 2) + dwV f p q i 2)
def drOk (f : Nat → Int) (p q : Int) (n : Nat) : Bool := (List.range n).all (okB f p q)
def drE (st : Int) (f : Nat → Int) (n : Nat) (p q : Int) : Int := if (rightB st f n && partB p q) = true then (if drOk f p q n = true then 0 else 20) else 2
def mvF (f : Nat → Int) (p q : Int) (j : Nat) : Int := if j % 6 < 3 then f j + dwV f p q (j / 6) (j % 6) else f j
def drF (st : Int) (f : Nat → Int) (n : Nat) (p q : Int) : Nat → Int := if drE st f n p q = 0 then mvF f p q else f
theorem drOk_iff {f : Nat → Int} {p q : Int} {n : Nat} : drOk f p q n = true ↔ ∀ i, i < n → okB f p q i = true := by simp [drOk]
theorem drOk_f {f : Nat → Int} {p q : Int} {n i : Nat} (hi : i < n) (h : okB f p q i = false) : drOk f p q n = false := by
  cases hb : drOk f p q n with
  | false => rfl
  | true => rw [drOk_iff.1 hb i hi] at h; cases h
theorem inV_iff {m x y z : Int} : inV m x y z = true ↔ inW m x ∧ inW m y ∧ inW m z := by unfold inV; exact decide_eq_true_iff
theorem right_n {st : Int} {f : Nat → Int} {n : Nat} (h : rightB st f n = true) : (-1073741824 ≤ st ∧ st ≤ 1073741824) ∧ (1 ≤ n ∧ n ≤ 4) ∧ ∀ i, i < n → inB 1048576 65536 f i = true := by
  unfold rightB stB at h
  simp only [Bool.and_eq_true, decide_eq_true_eq] at h
  exact ⟨h.1.1, h.1.2, allB_iff.1 h.2⟩
theorem right_b {st : Int} {f : Nat → Int} {n : Nat} (h : rightB st f n = true) {i : Nat} (hi : i < n) : (inW 1048576 (f (6 * i)) ∧ inW 1048576 (f (6 * i + 1)) ∧ inW 1048576 (f (6 * i + 2))) ∧ (inW 65536 (f (6 * i + 3)) ∧ inW 65536 (f (6 * i + 4)) ∧ inW 65536 (f (6 * i + 5))) := by
  have := (right_n h).2.2 i hi
  unfold inB at this
  rw [Bool.and_eq_true, inV_iff, inV_iff] at this
  exact this
theorem d1E_in {v p q : Int} (hp : partB p q = true) (hv : inW 65536 v) : d1E v p q = 0 := by
  unfold inW at hv
  unfold d1E
  rw [if_pos ⟨hp, by omega, by omega⟩]
theorem d1V_in {v p q : Int} (hp : partB p q = true) (hv : inW 65536 v) : d1V v p q = nearQ (v * p) q := by
  unfold inW at hv
  unfold d1V
  rw [if_pos ⟨hp, by omega, by omega⟩]
theorem right_dwE {st : Int} {f : Nat → Int} {n : Nat} {p q : Int} (h : rightB st f n = true) (hp : partB p q = true) {i : Nat} (hi : i < n) : dwE f p q i = 0 := by
  obtain ⟨_, h3, h4, h5⟩ := right_b h hi
  unfold dwE
  rw [wyE_2 (d1E_in hp h3) (d1E_in hp h4), d1E_in hp h5]
theorem right_dwV {st : Int} {f : Nat → Int} {n : Nat} {p q : Int} (h : rightB st f n = true) (hp : partB p q = true) {i : Nat} (hi : i < n) {u : Nat} (hu : u < 3) : dwV f p q i u = nearQ (f (6 * i + 3 + u) * p) q := by
  obtain ⟨_, h3, h4, h5⟩ := right_b h hi
  have hv : inW 65536 (f (6 * i + 3 + u)) := by
    obtain rfl | rfl | rfl : u = 0 ∨ u = 1 ∨ u = 2 := by omega
    · exact h3
    · exact h4
    · exact h5
  unfold dwV
  rw [right_dwE h hp hi, eaV, if_pos rfl, d1V_in hp hv]
theorem eaE_or (op : Int → Int → Int) (a0 a1 a2 b0 b1 b2 : Int) : eaE op a0 a1 a2 b0 b1 b2 = 0 ∨ eaE op a0 a1 a2 b0 b1 b2 = 20 := by unfold eaE; split <;> simp
/-- What does not fit into a point is not within. -/
theorem ok_over {x0 x1 x2 w0 w1 w2 : Int} (h0 : inW 1048576 x0) (h1 : inW 1048576 x1) (h2 : inW 1048576 x2) (he : eaE addI x0 x1 x2 w0 w1 w2 = 20) : inV 1048576 (x0 + w0) (x1 + w1) (x2 + w2) = false := by
  cases hb : inV 1048576 (x0 + w0) (x1 + w1) (x2 + w2) with
  | false => rfl
  | true =>
    rw [inV_iff] at hb
    unfold eaE at he
    rw [if_pos] at he
    · exact absurd he (by decide)
    · unfold inW at *
      unfold fnI addI
      omega
/-- The row behind i rounds: of what it was, g. -/
def mvG (g f : Nat → Int) (p q : Int) (i j : Nat) : Int := if j < 6 * i ∧ j % 6 < 3 then f j + dwV f p q (j / 6) (j % 6) else g j
theorem mvG_0 (g f : Nat → Int) (p q : Int) : mvG g f p q 0 = g := by
  funext j
  unfold mvG
  rw [if_neg (by omega)]
theorem mvG_at {g f : Nat → Int} {p q : Int} {i j : Nat} (h : 6 * i ≤ j) : mvG g f p q i j = g j := by
  unfold mvG
  rw [if_neg (by omega)]
theorem mvG_end {g f : Nat → Int} {p q : Int} {n j : Nat} (h : j < 6 * n) (hg : ∀ j, j < 6 * n → g j = f j) : mvG g f p q n j = mvF f p q j := by
  unfold mvG mvF
  by_cases c : j % 6 < 3
  · rw [if_pos ⟨h, c⟩, if_pos c]
  · rw [if_neg (by omega), if_neg c]; exact hg j h
theorem mvG_put {g f : Nat → Int} {p q : Int} {i : Nat} {a b c : Int} (ha : a = f (6 * i) + dwV f p q i 0) (hb : b = f (6 * i + 1) + dwV f p q i 1) (hc : c = f (6 * i + 2) + dwV f p q i 2) : put3 (mvG g f p q i) (6 * i) a b c = mvG g f p q (i + 1) := by
  funext j
  unfold put3
  by_cases c0 : j = 6 * i
  · rw [if_pos c0, ha]
    unfold mvG
    rw [if_pos (by omega), c0, show 6 * i / 6 = i by omega, show 6 * i % 6 = 0 by omega]
  · rw [if_neg c0]
    by_cases c1 : j = 6 * i + 1
    · rw [if_pos c1, hb]
      unfold mvG
      rw [if_pos (by omega), c1, show (6 * i + 1) / 6 = i by omega, show (6 * i + 1) % 6 = 1 by omega]
    · rw [if_neg c1]
      by_cases c2 : j = 6 * i + 2
      · rw [if_pos c2, hc]
        unfold mvG
        rw [if_pos (by omega), c2, show (6 * i + 2) / 6 = i by omega, show (6 * i + 2) % 6 = 2 by omega]
      · rw [if_neg c2]
        unfold mvG
        by_cases c3 : j < 6 * i ∧ j % 6 < 3
        · rw [if_pos c3, if_pos (by omega)]
        · rw [if_neg c3, if_neg (by omega)]
/-- What a drift hands back. -/
def DriftR (nk : Nat) (st : Int) (n : Nat) (F : Nat → Int) (E : Int) (v : Value) (ns : List (Nat × Blk)) : Prop := ∃ v0, OwnS nk st n F v0 ns ∧ v = .tuple #[v0, .int .i64 E]
theorem driftR_fit {b : Blk} {st : Int} {n : Nat} {F : Nat → Int} {E : Int} (v : Value) (ns : List (Nat × Blk)) (h : DriftR 1000 st n F E v ns) : idsV (extD (fun k => k ∈ keys [(100, b)]) ns) v ∧ (∀ p ∈ ns, 200 ≤ p.1 ∧ p.2.ids (extD (fun k => k ∈ keys [(100, b)]) ns)) ∧ (∀ k b c, (k, b) ∈ ns → (k, c) ∈ ns → b = c) := by
  obtain ⟨v0, hV, rfl⟩ := h
  obtain ⟨f1, f2, f3⟩ := owns_fit (b := b) v0 ns hV
  refine ⟨?_, f2, f3⟩
  obtain ⟨c, M, g, h1, h2, h3, rfl, rfl⟩ := hV
  simp [idsV, idsA, idsF, ids0, extD, keys]
end Go.Gy
namespace Go.Gy
set_option linter.unusedSimpArgs false
open Go Go.RowKit
section
variable {P : Program} {C : Ctx} {n : Nat} {d : List Deferred} {ro : Option Nat} {s : GS} {K : Exit → GS → Prop}
/-- The names of what is not done yet are free. -/
structure AFree (ops : Array Oper) (base : Nat) (listed : Array Bool) (hp : Hp) : Prop where
  at' : ∀ i, listed[i]? = some false → ∀ x, base + 8 * i ≤ x → x < base + 8 * i + 8 → hp x = none
  up : ∀ x, base + 8 * ops.size ≤ x → hp x = none
/-- What is left of a region that draws its order does, where those of 'listed' are done. -/
def GA (P : Program) (C : Ctx) (n : Nat) (d : List Deferred) (ro : Option Nat) (ops : Array Oper) (base : Nat) (fuel : Nat) (listed : Array Bool) (ts : Nat → Value) (hp : Hp) (yc : Nat) (K : Exit → GS → Prop) : Prop :=
  ∀ r a W, RI C n d r ts hp yc a W → AFree ops base listed hp → 100 ≤ base → GFlat C.G → (∀ y, C.Y = some y → Rounds P C.G C.E y) → wpAnyIn (Fw P ro) 0 P .any ops (fun e a' W' => ∃ s' r', K e s' ∧ GI P C n d r' s' a' W') fuel listed a W
/-- One of them comes up. -/
def GO (P : Program) (C : Ctx) (n : Nat) (d : List Deferred) (ro : Option Nat) (ops : Array Oper) (base : Nat) (fuel : Nat) (listed : Array Bool) (i : Nat) (ts : Nat → Value) (hp : Hp) (yc : Nat) (K : Exit → GS → Prop) : Prop :=
  ∀ r a W, RI C n d r ts hp yc a W → AFree ops base listed hp → 100 ≤ base → GFlat C.G → (∀ y, C.Y = some y → Rounds P C.G C.E y) → wpOpIn (Fw P ro) 0 P ops (fun e a' W' => ∃ s' r', K e s' ∧ GI P C n d r' s' a' W') i (wpAnyIn (Fw P ro) 0 P .any ops (fun e a' W' => ∃ s' r', K e s' ∧ GI P C n d r' s' a' W') fuel (listed.setIfInBounds i true)) a W
theorem GW_any {id : Nat} {l : List Oper} (hm : P.follows .mixedOrders = true) (h : GA P C n d ro l.toArray s.B l.length (Array.replicate l.length false) s.ts s.hp s.yc K) : GW P C n d ro (.region id l.toArray true) s K := fun r a W hi =>
  wpIn_region_any hm (by
    have := h r a _ hi.ri.drew ⟨fun i _ x hx _ => hi.free x (by omega), fun x hx => hi.free x (by omega)⟩ hi.low hi.flat hi.rounds
    simpa using this)
theorem GA_nil {ops : Array Oper} {base fuel : Nat} {listed : Array Bool} {ts : Nat → Value} {hp : Hp} {yc : Nat} (hr : Region.ready .any ops listed = []) (h : K .normal ⟨ts, hp, base + 8 * ops.size, yc⟩) : GA P C n d ro ops base fuel listed ts hp yc K := fun r a W hi hf hb hG hR => by
  have hq : ∃ s' r', K .normal s' ∧ GI P C n d r' s' a W := ⟨⟨ts, hp, _, yc⟩, r, h, hi, hf.up, by show 100 ≤ base + 8 * ops.size; omega, hG, hR⟩
  cases fuel with
  | zero => exact ⟨hr, hq⟩
  | succ k => exact ⟨fun _ => hq, fun i hi => by rw [hr] at hi; cases hi⟩
theorem GA_step {ops : Array Oper} {base fuel : Nat} {listed : Array Bool} {ts : Nat → Value} {hp : Hp} {yc : Nat} (l : List Nat) (hr : Region.ready .any ops listed = l) (hl : l.isEmpty = false) (h : ∀ i ∈ l, GO P C n d ro ops base fuel listed i ts hp yc K) : GA P C n d ro ops base (fuel + 1) listed ts hp yc K := fun r a W hi hf hb hG hR => by
  refine ⟨fun h0 => ?_, fun i hm => h i (by rw [← hr]; exact hm) r a W hi hf hb hG hR⟩
  rw [hr] at h0; rw [h0] at hl; cases hl
theorem AFree.after {ops : Array Oper} {base : Nat} {listed : Array Bool} {hp hp' : Hp} (h : AFree ops base listed hp) {i : Nat} (hi : i < ops.size) (e : ∀ x, hp x = none → ¬ (base + 8 * i ≤ x ∧ x < base + 8 * i + 8) → hp' x = none) : AFree ops base (listed.setIfInBounds i true) hp' := by
  refine ⟨fun j hj x h1 h2 => ?_, fun x hx => e x (h.up x hx) (by omega)⟩
  rw [Array.getElem?_setIfInBounds] at hj
  split at hj
  · split at hj <;> cases hj
  · exact e x (h.at' j hj x h1 h2) (by omega)
theorem GO_walk {l0 : List Oper} {o : Oper} {post : List Oper} {base i fuel : Nat} {listed : Array Bool} {ts : Nat → Value} {hp : Hp} {yc : Nat} (pn : List FuncId) (hl : l0.drop i = o :: post) (hdst : (dstOk n [o] && unOk P [o]) = true) (hi : listed[i]? = some false)
    (h : ∀ q : (Nat → Value) → Hp → Tr → Nat → Prop, (∀ ts hp tr yc, GA P C n d ro l0.toArray base fuel (listed.setIfInBounds i true) ts hp yc K → q ts hp tr yc) →
      lexS P C.G ⟨C.Y, pn, false⟩ base ⟨q, fun _ _ => False⟩ ((l0.take i).map (·.dst)).reverse i [o] ts hp [] yc true false) : GO P C n d ro l0.toArray base fuel listed i ts hp yc K := by
  intro r a W hRI hf hb hG hR
  simp only [Bool.and_eq_true] at hdst
  have hok := And.intro (dstOk_spec hdst.1 (List.mem_singleton.2 rfl)) (unOk_spec hdst.2 o (List.mem_singleton.2 rfl))
  have hi0 : l0[i]? = some o := by
    have := congrArg (fun l => l[0]?) hl
    simpa [List.getElem?_drop] using this
  have hlt : i < l0.length := (List.getElem?_eq_some_iff.1 hi0).1
  have hh := h (fun ts hp _ yc => GA P C n d ro l0.toArray base fuel (listed.setIfInBounds i true) ts hp yc K) (fun _ _ _ _ a => a)
  have ek : (l0.take i).length = i := by simp; omega
  have hx : lexX P C.G ⟨C.Y, pn, false⟩ l0.toArray base (fun ts hp _ yc => GA P C n d ro l0.toArray base fuel (listed.setIfInBounds i true) ts hp yc K) (fun _ _ => False) i [o] ts hp [] yc true false := by
    refine lexX_of_lexS' (Q := ⟨_, fun _ _ => False⟩) [o] _ i _ _ _ _ _ _ (fun j hj => ?_) (fun j hj => ?_) hh
    · rw [List.getElem?_reverse (by simp; omega)]
      simp only [List.length_map, ek, List.getElem?_map, List.getElem?_toArray]
      rw [show i - 1 - (i - 1 - j) = j by omega, List.getElem?_take, if_pos hj]
      cases l0[j]? <;> rfl
    · obtain rfl : j = 0 := by simpa using hj
      simp [hi0]
  have hfree : ∀ x, base + 8 * i ≤ x → x < base + 8 * i + 8 → hp x = none := hf.at' i hi
  unfold wpOpIn
  rw [List.getElem?_toArray, hi0]
  simp only
  simp only [lexX] at hx
  cases hw : wantedG l0.toArray o ts with
  | none => rw [hw] at hx; exact hx.elim
  | some b =>
    rw [hw] at hx
    rw [wantedG_eq hRI.rel hw]
    cases b with
    | true =>
      simp only at hx
      simp only [if_true]
      obtain ⟨e, h1, hs, hyd, h3⟩ := opX_sound hG hRI.glob hx
      refine meets hG hR o e ts hp yc r a W 0 _ _ hRI hok.1 h1 (fun x hx => (hs.ws x hx).2) (fun x hx => ?_) (fun r' a' W' hpn hi' => ?_) (fun pv W' yc' hpn hi' => ?_)
      · have := hs.ns x hx; exact ⟨hfree x (by omega) (by omega), by omega⟩
      · rw [hpn] at h3
        refine h3 r' a' W' hi' (hf.after (by simpa using hlt) fun x hx0 hx1 => ?_) hb hG hR
        rw [updL_other (fun hm => ?_)]
        · exact hx0
        · have : x ∈ keys e.ws ∨ x ∈ keys e.ns := by simpa [keys] using hm
          rcases this with h | h
          · exact (hs.ws x h).2.1 hx0
          · have := hs.ns x h; omega
      · rw [hpn] at h3
        exact h3.2.2.elim
    | false =>
      simp only at hx
      simp only [Bool.false_eq_true, if_false]
      exact ⟨meetsU (Y := none) o ts r _ a W hRI.rel ⟨hx.1, hok.2⟩, hx.2 r _ W (hRI.put_undef hok.1.1) (hf.after (by simpa using hlt) fun x hx0 _ => hx0) hb hG hR⟩
/-- What a call asks that hands back any of a kind. -/
theorem GO_callL {G : Hp} {ops : Array Oper} {o : Oper} {base i fuel : Nat} {listed : Array Bool} {ts : Nat → Value} {hp hp' : Hp} {yc : Nat} {c : Call} {f : Operand} {g : FuncId} {cap : Array Value} {rs : List Nat} {args : Array Value} {R : Value → List (Nat × Blk) → Prop} (hCG : C.G = G) (hr : FunS P G g args hp' rs R) (hio : ops[i]? = some o) (hi : listed[i]? = some false) (hg : o.guard = none) (hd : ∀ dd, o.dst = some dd → dd < n)
    (ho : o.op = .call c) (hc : c.callee = .value f) (hf : okT ts f) (hgf : gev ts f = .func (.func g) #[] cap) (hcp : cap.all plain0 = true) (ha : ∀ x ∈ c.args.toList, okX ts hp x) (hargs : c.args.map (gev ts) ++ cap = args)
    (h1 : ∀ q ∈ rs, hp' q = hp q) (h2 : ∀ q, q < 100 → hp' q = hp q) (hat : ∀ v ns, R v ns → ∀ q ∈ keys ns, base + 8 * i ≤ q ∧ q < base + 8 * i + 8)
    (h : ∀ v ns, R v ns → GA P C n d ro ops base fuel (listed.setIfInBounds i true) (putT ts o.dst v) (updL hp ns) yc K) : GO P C n d ro ops base fuel listed i ts hp yc K := by
  subst hCG
  intro r a W hRI hfr hb hG hR
  unfold wpOpIn
  rw [hio]
  simp only [Region.wanted, hg, if_true]
  refine step_callS hG hRI hd ho hc hf hgf hcp ha (by rw [hargs]; exact hr.under fun q hq => hq.elim (h2 q) (h1 q)) (fun v ns hRv q hq => hfr.at' i hi q (hat v ns hRv q hq).1 (hat v ns hRv q hq).2) (fun v ns hRv r' a' W' hi' => h v ns hRv r' a' W' hi' (hfr.after (Array.getElem?_eq_some_iff.1 hio).1 fun x hx hx1 => ?_) hb hG hR)
  rw [updL_other (fun hm => hx1 (hat v ns hRv x hm))]
  exact hx
theorem all_two {p : Nat → Prop} {a b : Nat} (h1 : p a) (h2 : p b) : ∀ i ∈ [a, b], p i := fun i hi => by
  simp at hi
  rcases hi with rfl | rfl
  · exact h1
  · exact h2
theorem all_one {p : Nat → Prop} {a : Nat} (h1 : p a) : ∀ i ∈ [a], p i := fun i hi => by
  simp at hi
  subst hi
  exact h1
end
end Go.Gy
namespace Go.Gy
set_option linter.unusedSimpArgs false
set_option linter.unusedVariables false
open Go Go.RowKit Go.Proofs
def erB (E : Int) : Blk := ⟨#[.int .i64 E], .ty 29⟩
/-- Where the label stands. -/
def drSt (b : Blk) (st : Int) (off n cap c M : Nat) (g : Nat → Int) (E : Int) : GS :=
  ⟨tsL [(3, .pointer (some ⟨200, 0, none⟩)), (6, .pointer (some ⟨208, 0, none⟩)), (7, .pointer (some ⟨216, 0, none⟩))],
   hpL G0 [(100, b), (200, stB' st 100 off n cap), (208, stB' st 248 0 n c), (216, erB E), (248, ⟨fa M .i64 g, .ty 44⟩)], 600, 0⟩
/-- What lies about behind i rounds. -/
def drM (st : Int) (n c M : Nat) (g f : Nat → Int) (p q : Int) (i : Nat) : List (Nat × Blk) := [(208, stB' st 248 0 n c), (216, erB 0), (224, jb i), (248, ⟨fa M .i64 (mvG g f p q i), .ty 44⟩)]
theorem put_row {M n : Nat} {g f : Nat → Int} {p q : Int} (hM : 6 * n ≤ M) {i : Nat} (hi : i < n) :
    (((fa M IntKind.i64 (mvG g f p q i)).setIfInBounds (i * 6) (Value.int IntKind.i64 (addI (f (6 * i)) (dwV f p q i 0)))).setIfInBounds (i * 6 + 1) (Value.int IntKind.i64 (addI (f (6 * i + 1)) (dwV f p q i 1)))).setIfInBounds (i * 6 + 1 + 1) (Value.int IntKind.i64 (addI (f (6 * i + 2)) (dwV f p q i 2))) = fa M IntKind.i64 (mvG g f p q (i + 1)) := by
  have := splice_3 M .i64 (mvG g f p q i) (6 * i) (addI (f (6 * i)) (dwV f p q i 0)) (addI (f (6 * i + 1)) (dwV f p q i 1)) (addI (f (6 * i + 2)) (dwV f p q i 2)) (by omega)
  rw [mvG_put (a := addI (f (6 * i)) (dwV f p q i 0)) (b := addI (f (6 * i + 1)) (dwV f p q i 1)) (c := addI (f (6 * i + 2)) (dwV f p q i 2)) rfl rfl rfl] at this
  rw [show i * 6 = 6 * i by omega]
  simpa [splice] using this
theorem ea_in {x0 x1 x2 w0 w1 w2 : Int} (he : eaE addI x0 x1 x2 w0 w1 w2 = 0) : i64 (addI x0 w0) ∧ i64 (addI x1 w1) ∧ i64 (addI x2 w2) := by
  unfold eaE at he
  split at he
  · rename_i h
    obtain ⟨_, h0, h1, h2⟩ := h
    unfold fnI at h0 h1 h2
    exact ⟨⟨by omega, by omega⟩, ⟨by omega, by omega⟩, ⟨by omega, by omega⟩⟩
  · cases he
theorem eaV_0 (z : Int) : eaV 0 z = z := by simp [eaV]
theorem row_vec {M n : Nat} {g f : Nat → Int} {p q : Int} (hM : 6 * n ≤ M) (hg : ∀ j, j < 6 * n → g j = f j) {i : Nat} (hi : i < n) : loadK Tryd.prog 26 ⟨fa M .i64 (mvG g f p q i), .ty 44⟩ (i * 6) = some (.agg #[.int .i64 (f (6 * i)), .int .i64 (f (6 * i + 1)), .int .i64 (f (6 * i + 2))]) := by
  have := loadK_rd (P := Tryd.prog) (T := 26) (m := 3) (j := 6 * i) (tyAgg_of Tryd.isAgg26) (tySize_of Tryd.sizeOf26) (by omega) (rdI_fa M (mvG g f p q i) (.ty 44)) (by omega)
  rw [show i * 6 = 0 + 6 * i by omega, this, fa_3, mvG_at (by omega), mvG_at (by omega), mvG_at (by omega), hg _ (by omega), hg _ (by omega), hg _ (by omega)]
  rfl
set_option maxRecDepth 8000 in
set_option maxHeartbeats 4000000 in
theorem drift_fun (b : Blk) (off n cap : Nat) (f : Nat → Int) (h : SB b off n f) (hcap : n ≤ cap) (st p q : Int) (hs : i64 st) (hp : i64 p) (hq : i64 q) :
    FunS Tryd.prog G0 21 #[.agg #[.int .i64 st, .slice (some ⟨100, off, none⟩) n cap], .int .i64 p, .int .i64 q] (hpL G0 [(100, b)]) (keys [(100, b)]) (DriftR 1000 st n (drF st f n p q) (drE st f n p q)) := by
  refine newS_ofL (B := 200) G0F Tryd.func21 rfl Tryd.call21 (oneL_ok h.fx) ?_ driftR_fit (by simp [Tryd.ntmps21]) (by omega) ?_
  · simp [idsV, idsA, idsF, ids0, keys]
  intro C hC hC0 hY
  have hr := fun ρ => Blk.fx_rn h.fx ρ
  have hid := fun D => Blk.fx_ids h.fx D
  have hnn := h.nn
  repeat' (first | refine GW_seq ?_ | simp only [List.length_cons, List.length_nil, Nat.reduceAdd, Nat.reduceMul, wN] | ((first | refine GW_region' [] (by kernel_rfl) ?_ | refine GW_draw' [] follows (by kernel_rfl) (by kernel_rfl) ?_); intro Q hQ hP; simp [hC, hY]; (first | refine hQ _ _ _ _ ?_ | refine hQ _ _ _ _ (by kernel_rfl) ?_ | refine hP _ _ (fun _ => ?_) | refine hP _ _ (by kernel_rfl) (fun _ => ?_)); clear hQ hP Q) | refine GW_block ?_ | refine GW_ret ?_ | refine GW_skip ?_ | refine GW_exit ?_ | refine GW_goto ?_ | refine GW_label ?_ | simp only [blockG_exit] | (refine GW_cond (by simp; rfl) ?_ ?_ <;> (intro hb; first | (exfalso; exact absurd hb (by decide)) | skip)))
  refine GW_scope' 0 (fun m s => ∃ (c M : Nat) (g : Nat → Int) (E : Int), drE st f n p q = E ∧ E ≠ 0 ∧ s = drSt b st off n cap c M g E) rfl ?_ ?_
  · rintro m _ ⟨c, M, g, E, hE, hE0, rfl⟩
    have hF : drF st f n p q = f := by unfold drF; rw [if_neg (by omega)]
    rw [hF, hE]
    have hend : ∀ (ts : Nat → Value) (hp : Hp) (v0 : Value) (ns : List (Nat × Blk)), True := fun _ _ _ _ => trivial
    unfold drSt stB' erB
    refine GW_seq ?_
    refine GW_any follows ?_
    simp only [Array.toList, List.length_cons, List.length_nil, Nat.reduceAdd]
    repeat' (first
      | refine GA_step [0, 2] (by decide +kernel) rfl (all_two ?_ ?_)
      | refine GA_step [1, 2] (by decide +kernel) rfl (all_two ?_ ?_)
      | refine GA_step [2, 3] (by decide +kernel) rfl (all_two ?_ ?_)
      | refine GA_step [0] (by decide +kernel) rfl (all_one ?_)
      | refine GA_step [1] (by decide +kernel) rfl (all_one ?_)
      | refine GA_step [2] (by decide +kernel) rfl (all_one ?_)
      | refine GA_step [3] (by decide +kernel) rfl (all_one ?_)
      | refine GA_step [4] (by decide +kernel) rfl (all_one ?_)
      | refine GA_nil (by decide +kernel) ?_
      | (
        refine GO_walk [] rfl (by kernel_rfl) (by simp) ?_; intro q hq; simp [hC, hY, putT, updL, stB', erB]; refine hq _ _ _ _ ?_; clear hq q
        )
      | (refine GO_callL (f := .func 47) (cap := #[]) hC (own_at 608 (by omega) b off n cap f h hcap st) rfl rfl rfl (by simp) rfl rfl (by simp [okT]) (by simp [gev]) (by simp) (by simp [okX, putT, junk, upd]) (by simp [gev, putT, upd]) (by simp [updL]) (by (intro k hk; first | rfl | (simp (disch := omega) only [addB, List.mem_cons, List.not_mem_nil, or_false, upd_other, hpL_cons, hpL_nil, if_neg, updL] <;> done))) ?_ ?_
         · rintro v ns ⟨c3, M3, g3, k1, k2, k3, rfl, rfl⟩
           simp [keys]
         rintro v ns ⟨c3, M3, g3, k1, k2, k3, rfl, rfl⟩)
      )
    all_goals (
      repeat' (first | refine GW_seq ?_ | simp only [List.length_cons, List.length_nil, Nat.reduceAdd, Nat.reduceMul, wN] | ((first | refine GW_region' [] (by kernel_rfl) ?_ | refine GW_draw' [] follows (by kernel_rfl) (by kernel_rfl) ?_); intro Q hQ hP; simp [hC, hY]; (first | refine hQ _ _ _ _ ?_ | refine hQ _ _ _ _ (by kernel_rfl) ?_ | refine hP _ _ (fun _ => ?_) | refine hP _ _ (by kernel_rfl) (fun _ => ?_)); clear hQ hP Q) | refine GW_block ?_ | refine GW_ret ?_ | refine GW_skip ?_ | refine GW_exit ?_ | refine GW_goto ?_ | refine GW_label ?_ | simp only [blockG_exit] | (refine GW_cond (by simp; rfl) ?_ ?_ <;> (intro hb; first | (exfalso; exact absurd hb (by decide)) | skip)))
      )
    all_goals (refine ⟨.inr trivial, keep_of G0F (by simp) (by (intro k hk; first | rfl | (simp (disch := omega) only [addB, List.mem_cons, List.not_mem_nil, or_false, upd_other, hpL_cons, hpL_nil, if_neg, updL] <;> done))), _, _, fun k => if k = 1000 then 608 else k, ⟨_, ⟨c3, M3, g3, k1, k2, k3, rfl, rfl⟩, rfl⟩, fun k hk => if_neg (by omega), by simp, by simp, ?_, ?_⟩)
    all_goals first | (simp [Tryd.results21, ren, renA, renF, ren0]; done) | simp [fa_rn]
  · intro pass
    clear pass
    repeat' (first | refine GW_seq ?_ | simp only [List.length_cons, List.length_nil, Nat.reduceAdd, Nat.reduceMul, wN] | ((first | refine GW_region' [] (by kernel_rfl) ?_ | refine GW_draw' [] follows (by kernel_rfl) (by kernel_rfl) ?_); intro Q hQ hP; simp [hC, hY]; (first | refine hQ _ _ _ _ ?_ | refine hQ _ _ _ _ (by kernel_rfl) ?_ | refine hP _ _ (fun _ => ?_) | refine hP _ _ (by kernel_rfl) (fun _ => ?_)); clear hQ hP Q) | refine GW_block ?_ | refine GW_ret ?_ | refine GW_skip ?_ | refine GW_exit ?_ | refine GW_goto ?_ | refine GW_label ?_ | simp only [blockG_exit] | (refine GW_cond (by simp; rfl) ?_ ?_ <;> (intro hb; first | (exfalso; exact absurd hb (by decide)) | skip)))
    refine GW_list ?_
    simp only [Array.toList]
    refine GL_walk 1 [] rfl (by simp) (by kernel_rfl) ?_; intro q hq; simp [hC, hY]; refine hq _ _ _ _ ?_; clear hq q
    simp only [wT, List.length_cons, List.length_nil, Nat.reduceAdd]
    refine GL_callL (f := .func 47) (cap := #[]) hC (own_at 248 (by omega) b off n cap f h hcap st) rfl (by simp) rfl rfl (by simp [okT]) (by simp [gev]) (by simp) (by simp [okX, junk]) (by simp [gev]) (by simp) (by (intro k hk; first | rfl | (simp (disch := omega) only [addB, List.mem_cons, List.not_mem_nil, or_false, upd_other, hpL_cons, hpL_nil, if_neg, updL] <;> done))) ?_ ?_
    · rintro v ns ⟨c2, M2, g2, h1, h2, h3, rfl, rfl⟩
      simp [keys]
    rintro v ns ⟨c2, M2, g2, h1, h2, h3, rfl, rfl⟩
    refine GL_walk 1 [] rfl (by simp) (by kernel_rfl) ?_; intro q hq; simp [hC, hY, putT, updL]; refine hq _ _ _ _ ?_; clear hq q
    simp only [wT, List.length_cons, List.length_nil, Nat.reduceAdd]
    refine GL_nil ?_
    repeat' (first | refine GW_seq ?_ | simp only [List.length_cons, List.length_nil, Nat.reduceAdd, Nat.reduceMul, wN] | ((first | refine GW_region' [] (by kernel_rfl) ?_ | refine GW_draw' [] follows (by kernel_rfl) (by kernel_rfl) ?_); intro Q hQ hP; simp [hC, hY]; (first | refine hQ _ _ _ _ ?_ | refine hQ _ _ _ _ (by kernel_rfl) ?_ | refine hP _ _ (fun _ => ?_) | refine hP _ _ (by kernel_rfl) (fun _ => ?_)); clear hQ hP Q) | refine GW_block ?_ | refine GW_ret ?_ | refine GW_skip ?_ | refine GW_exit ?_ | refine GW_goto ?_ | refine GW_label ?_ | simp only [blockG_exit] | (refine GW_cond (by simp; rfl) ?_ ?_ <;> (intro hb; first | (exfalso; exact absurd hb (by decide)) | skip)))
    cases c0 : rightB st f n with
    | false =>
      have hE : drE st f n p q = 2 := by unfold drE; rw [c0]; rfl
      repeat' (first | refine GW_seq ?_ | simp only [List.length_cons, List.length_nil, Nat.reduceAdd, Nat.reduceMul, wN] | ((first | refine GW_region' [44] (by kernel_rfl) ?_ | refine GW_draw' [44] follows (by kernel_rfl) (by kernel_rfl) ?_); intro Q hQ hP; simp [hC, hY, hp, c0]; (repeat ((first | (refine heapK_mv (rig_fun b off n cap f h st hs) G0F (B := 200) (oneL_ok h.fx) (fun k => k) (fun k hk => rfl) (by simp [ren, renA, renF, ren0]) (by simp) (by simp [hr]) (by simp [keys]) (by simp [keys]; rfl) ?_)); try simp [hC, hY, hp, c0])); (first | refine hQ _ _ _ _ ?_ | refine hQ _ _ _ _ (by kernel_rfl) ?_ | refine hP _ _ (fun _ => ?_) | refine hP _ _ (by kernel_rfl) (fun _ => ?_)); clear hQ hP Q) | refine GW_block ?_ | refine GW_ret ?_ | refine GW_skip ?_ | refine GW_exit ?_ | refine GW_goto ?_ | refine GW_label ?_ | simp only [blockG_exit] | (refine GW_cond (by simp; rfl) ?_ ?_ <;> (intro hb; first | (exfalso; exact absurd hb (by decide)) | skip)))
      refine ⟨rfl, drSt b st off n cap c2 M2 g2 2, 0, weakL _ 600 hC G0F (m0 := [(100, b)]) hC0 (by omega) ?_ ?_ ?_, ⟨c2, M2, g2, 2, hE, by omega, rfl⟩⟩
      · simp [idsV, idsA, idsF, ids0, dom]
      · simp [stB', erB, ids_lit, idsF, ids0, hid, dom, Blk.fx_ids (fa_fx _ _ _)]
      · simp
    | true =>
      cases c1 : partB p q with
      | false =>
        have hE : drE st f n p q = 2 := by unfold drE; rw [c0, c1]; rfl
        repeat' (first | refine GW_seq ?_ | simp only [List.length_cons, List.length_nil, Nat.reduceAdd, Nat.reduceMul, wN] | ((first | refine GW_region' [44] (by kernel_rfl) ?_ | refine GW_draw' [44] follows (by kernel_rfl) (by kernel_rfl) ?_); intro Q hQ hP; simp [hC, hY, hp, c0, c1]; (repeat ((first | (refine heapK_mv (rig_fun b off n cap f h st hs) G0F (B := 200) (oneL_ok h.fx) (fun k => k) (fun k hk => rfl) (by simp [ren, renA, renF, ren0]) (by simp) (by simp [hr]) (by simp [keys]) (by simp [keys]; rfl) ?_)); try simp [hC, hY, hp, c0, c1])); (first | refine hQ _ _ _ _ ?_ | refine hQ _ _ _ _ (by kernel_rfl) ?_ | refine hP _ _ (fun _ => ?_) | refine hP _ _ (by kernel_rfl) (fun _ => ?_)); clear hQ hP Q) | refine GW_block ?_ | refine GW_ret ?_ | refine GW_skip ?_ | refine GW_exit ?_ | refine GW_goto ?_ | refine GW_label ?_ | simp only [blockG_exit] | (refine GW_cond (by simp; rfl) ?_ ?_ <;> (intro hb; first | (exfalso; exact absurd hb (by decide)) | skip)))
        refine ⟨rfl, drSt b st off n cap c2 M2 g2 2, 0, weakL _ 600 hC G0F (m0 := [(100, b)]) hC0 (by omega) ?_ ?_ ?_, ⟨c2, M2, g2, 2, hE, by omega, rfl⟩⟩
        · simp [idsV, idsA, idsF, ids0, dom]
        · simp [stB', erB, ids_lit, idsF, ids0, hid, dom, Blk.fx_ids (fa_fx _ _ _)]
        · simp
      | true =>
        repeat' (first | refine GW_seq ?_ | simp only [List.length_cons, List.length_nil, Nat.reduceAdd, Nat.reduceMul, wN] | ((first | refine GW_region' [44] (by kernel_rfl) ?_ | refine GW_draw' [44] follows (by kernel_rfl) (by kernel_rfl) ?_); intro Q hQ hP; simp [hC, hY, hp, c0, c1]; (repeat ((first | (refine heapK_mv (rig_fun b off n cap f h st hs) G0F (B := 200) (oneL_ok h.fx) (fun k => k) (fun k hk => rfl) (by simp [ren, renA, renF, ren0]) (by simp) (by simp [hr]) (by simp [keys]) (by simp [keys]; rfl) ?_)); try simp [hC, hY, hp, c0, c1])); (first | refine hQ _ _ _ _ ?_ | refine hQ _ _ _ _ (by kernel_rfl) ?_ | refine hP _ _ (fun _ => ?_) | refine hP _ _ (by kernel_rfl) (fun _ => ?_)); clear hQ hP Q) | refine GW_block ?_ | refine GW_ret ?_ | refine GW_skip ?_ | refine GW_exit ?_ | refine GW_goto ?_ | refine GW_label ?_ | simp only [blockG_exit] | (refine GW_cond (by simp; rfl) ?_ ?_ <;> (intro hb; first | (exfalso; exact absurd hb (by decide)) | skip)))
        refine GW_list ?_
        simp only [Array.toList]
        refine GL_walk 3 [] rfl (by simp) (by kernel_rfl) ?_; intro q hq; simp [hC, hY]; refine hq _ _ _ _ ?_; clear hq q
        simp only [wT, List.length_cons, List.length_nil, Nat.reduceAdd]
        refine GL_callL (f := .func 46) (cap := #[]) hC (ways_at 360 (by omega) b off n cap h.fx st p q) rfl (by simp) rfl rfl (by simp [okT]) (by simp [gev]) (by simp) (by simp [okX, junk]) (by simp [gev]) (by simp) (by (intro k hk; first | rfl | (simp (disch := omega) only [addB, List.mem_cons, List.not_mem_nil, or_false, upd_other, hpL_cons, hpL_nil, if_neg, updL] <;> done))) (fun v ns hV k hk => by have := wayR_key hV k hk; omega) ?_
        rintro v ns ⟨rfl, rfl⟩
        refine GL_nil ?_
        repeat' (first | refine GW_seq ?_ | simp only [List.length_cons, List.length_nil, Nat.reduceAdd, Nat.reduceMul, wN] | ((first | refine GW_region' [] (by kernel_rfl) ?_ | refine GW_draw' [] follows (by kernel_rfl) (by kernel_rfl) ?_); intro Q hQ hP; simp [hC, hY, putT, updL, wayNs]; (first | refine hQ _ _ _ _ ?_ | refine hQ _ _ _ _ (by kernel_rfl) ?_ | refine hP _ _ (fun _ => ?_) | refine hP _ _ (by kernel_rfl) (fun _ => ?_)); clear hQ hP Q) | refine GW_block ?_ | refine GW_ret ?_ | refine GW_skip ?_ | refine GW_exit ?_ | refine GW_goto ?_ | refine GW_label ?_ | simp only [blockG_exit] | (refine GW_cond (by simp; rfl) ?_ ?_ <;> (intro hb; first | (exfalso; exact absurd hb (by decide)) | skip)))
        simp only [putT, updL, wayNs, Nat.reduceAdd]
        obtain ⟨N, hN, hlt, hend⟩ := leadB (okB f p q) n
        refine GW_rangeKL (G := G0) (f := 80) (rs := [360, 363, 100, 361, 362]) (xs := dwXs f p q n) (caps := #[.pointer (some ⟨360, 0, none⟩), .pointer (some ⟨363, 0, none⟩)]) (m0 := [(100, b)]) [100, 200, 360, 361, 362, 363] G0F hC hC0 hY (by simp) ?_ ?_ (by simp [Tryd.ntmps21]) [(6, .pointer (some ⟨208, 0, none⟩)), (7, .pointer (some ⟨216, 0, none⟩)), (8, .pointer (some ⟨224, 0, none⟩))] [(3, .pointer (some ⟨200, 0, none⟩))] (drM st n c2 M2 g2 f p q) 400 N (by rw [dwXs_len]; exact hN) (by omega) (by simp) (by simp [dom]) ?_ (by simp) (by simp [idsV, idsA, idsF, ids0]) ?_ ?_ (by simp) ?_ ?_
        · refine iterk_mv (ways_it b off n cap f h st p q hp hq) G0F (wyL_ok h.fx st off n cap p q) (dnk 360 0) dnk_low (by simp [ren0, dnk]) (by simp [wyL, keys, dnk]) (by (intro k hk; first | rfl | (simp (disch := omega) only [addB, List.mem_cons, List.not_mem_nil, or_false, upd_other, hpL_cons, hpL_nil, if_neg, updL] <;> done))) ?_ ?_
          · simp [wyL, dnk, stB'_rn, fnB_rn, jb_rn, hr]
          · simp [wyL, keys, dnk]
        · intro x hx
          simp [dwXs] at hx
          obtain ⟨i, _, rfl⟩ := hx
          simp [dwA]
        · intro k hk bb hb
          simp only [List.mem_cons, List.not_mem_nil, or_false] at hk
          rcases hk with rfl | rfl | rfl | rfl | rfl | rfl
          · simp at hb; subst hb; exact hid _
          all_goals (simp at hb; subst hb; simp [ids_lit, idsF, ids0, stB', fnB, jb])
        · simp [drM, mvG_0, erB, jb, stB']
        · intro i hi
          simp [drM, idsV, idsA, idsF, ids0, dom, ids_lit, erB, jb, stB', Blk.fx_ids (fa_fx _ _ _)]
        · intro i x hi hx C1 l hC1 hh1 hY1
          have hin : i < n := by omega
          rw [dwXs_at _ _ _ _ _ hin] at hx
          simp only [Option.some.injEq] at hx
          subst hx
          clear hC hY
          have hC := hC1
          have hY := hY1
          unfold drM stB' erB dwA
          repeat' (first | refine GW_seq ?_ | simp only [List.length_cons, List.length_nil, Nat.reduceAdd, Nat.reduceMul, wN] | ((first | refine GW_region' [] (by kernel_rfl) ?_ | refine GW_draw' [] follows (by kernel_rfl) (by kernel_rfl) ?_); intro Q hQ hP; simp [hC, hY, roundTs]; (first | refine hQ _ _ _ _ ?_ | refine hQ _ _ _ _ (by kernel_rfl) ?_ | refine hP _ _ (fun _ => ?_) | refine hP _ _ (by kernel_rfl) (fun _ => ?_)); clear hQ hP Q) | refine GW_block ?_ | refine GW_ret ?_ | refine GW_skip ?_ | refine GW_exit ?_ | refine GW_goto ?_ | refine GW_label ?_ | simp only [blockG_exit] | (refine GW_cond (by simp; rfl) ?_ ?_ <;> (intro hb; first | (exfalso; exact absurd hb (by decide)) | skip)))
          intro C2 hC2 hh2 hY2
          clear hC hY
          have hC := hC2
          have hY := hY2
          have hi' : (i : Int) < n := by omega
          have hz : (0 : Int) ≤ i := by omega
          have hs : Int.bmod ((i : Int) + 1) 18446744073709551616 = ((i + 1 : Nat) : Int) := by rw [bm (by omega) (by omega)]; rfl
          have hl := row_vec (p := p) (q := q) h2 h3 hin
          have hx3 := (right_b c0 hin).1
          have hok := hlt i hi
          have he : eaE addI (f (6 * i)) (f (6 * i + 1)) (f (6 * i + 2)) (dwV f p q i 0) (dwV f p q i 1) (dwV f p q i 2) = 0 := by
            rcases eaE_or addI (f (6 * i)) (f (6 * i + 1)) (f (6 * i + 2)) (dwV f p q i 0) (dwV f p q i 1) (dwV f p q i 2) with e | e
            · exact e
            · have := ok_over hx3.1 hx3.2.1 hx3.2.2 e
              unfold okB at hok
              rw [this] at hok
              cases hok
          have hok' : inV 1048576 (addI (f (6 * i)) (dwV f p q i 0)) (addI (f (6 * i + 1)) (dwV f p q i 1)) (addI (f (6 * i + 2)) (dwV f p q i 2)) = true := hok
          have hw := inV_iff.1 hok'
          have w0 : i64 (addI (f (6 * i)) (dwV f p q i 0)) := by have := hw.1; unfold inW at this; exact ⟨by omega, by omega⟩
          have w1 : i64 (addI (f (6 * i + 1)) (dwV f p q i 1)) := by have := hw.2.1; unfold inW at this; exact ⟨by omega, by omega⟩
          have w2 : i64 (addI (f (6 * i + 2)) (dwV f p q i 2)) := by have := hw.2.2; unfold inW at this; exact ⟨by omega, by omega⟩
          have hM : i * 6 + 3 ≤ M2 := by omega
          repeat' (first | refine GW_seq ?_ | simp only [List.length_cons, List.length_nil, Nat.reduceAdd, Nat.reduceMul, wN] | ((first | refine GW_region' [] (by kernel_rfl) ?_ | refine GW_draw' [] follows (by kernel_rfl) (by kernel_rfl) ?_); intro Q hQ hP; simp [hC, hY, roundTs, jb, hi', hz, hs, hl, he, eaV_0, hok', w0, w1, w2, hM, i64_box]; (first | refine hQ _ _ _ _ ?_ | refine hQ _ _ _ _ (by kernel_rfl) ?_ | refine hP _ _ (fun _ => ?_) | refine hP _ _ (by kernel_rfl) (fun _ => ?_)); clear hQ hP Q) | refine GW_block ?_ | refine GW_ret ?_ | refine GW_skip ?_ | refine GW_exit ?_ | refine GW_goto ?_ | refine GW_label ?_ | simp only [blockG_exit] | (refine GW_cond (by simp; rfl) ?_ ?_ <;> (intro hb; first | (exfalso; exact absurd hb (by decide)) | skip)))
          have hput := put_row (g := g2) (f := f) (p := p) (q := q) h2 hin
          simp [hput, jb]
        · by_cases hNn : N = n
          · subst hNn
            left
            have hE : drE st f N p q = 0 := by
              unfold drE
              simp [c0, c1, drOk_iff.2 hlt]
            have hF : drF st f N p q = mvF f p q := by unfold drF; rw [if_pos hE]
            refine ⟨(dwXs_len _ _ _ _).symm, ?_⟩
            unfold drM stB' erB
            repeat' (first | refine GW_seq ?_ | simp only [List.length_cons, List.length_nil, Nat.reduceAdd, Nat.reduceMul, wN] | ((first | refine GW_region' [] (by kernel_rfl) ?_ | refine GW_draw' [] follows (by kernel_rfl) (by kernel_rfl) ?_); intro Q hQ hP; simp [hC, hY, addB, List.cons_append, List.nil_append]; (first | refine hQ _ _ _ _ ?_ | refine hQ _ _ _ _ (by kernel_rfl) ?_ | refine hP _ _ (fun _ => ?_) | refine hP _ _ (by kernel_rfl) (fun _ => ?_)); clear hQ hP Q) | refine GW_block ?_ | refine GW_ret ?_ | refine GW_skip ?_ | refine GW_exit ?_ | refine GW_goto ?_ | refine GW_label ?_ | simp only [blockG_exit] | (refine GW_cond (by simp; rfl) ?_ ?_ <;> (intro hb; first | (exfalso; exact absurd hb (by decide)) | skip)))
            rw [hE, hF]
            refine ⟨.inr trivial, keep_of G0F (by simp [addB]) (by (intro k hk; first | rfl | (simp (disch := omega) only [addB, List.mem_cons, List.not_mem_nil, or_false, upd_other, hpL_cons, hpL_nil, if_neg, updL] <;> done))), _, _, fun k => if k = 1000 then 248 else k, ⟨_, ⟨c2, M2, mvG g2 f p q N, h1, h2, fun j hj => mvG_end hj h3, rfl, rfl⟩, rfl⟩, fun k hk => if_neg (by omega), by simp, by simp, ?_, ?_⟩
            · simp [Tryd.results21, ren, renA, renF, ren0, addB]
            · simp [fa_rn, addB]
          · right
            have hin : N < n := by omega
            have hok := hend.resolve_left hNn
            have hE : drE st f n p q = 20 := by
              unfold drE
              simp [c0, c1, drOk_f hin hok]
            refine ⟨_, dwXs_at _ _ _ _ _ hin, ?_⟩
            intro C1 l hC1 hh1 hY1
            have hCC := hC
            clear hC hY
            have hC := hC1
            have hY := hY1
            unfold drM stB' erB dwA
            repeat' (first | refine GW_seq ?_ | simp only [List.length_cons, List.length_nil, Nat.reduceAdd, Nat.reduceMul, wN] | ((first | refine GW_region' [] (by kernel_rfl) ?_ | refine GW_draw' [] follows (by kernel_rfl) (by kernel_rfl) ?_); intro Q hQ hP; simp [hC, hY, roundTs]; (first | refine hQ _ _ _ _ ?_ | refine hQ _ _ _ _ (by kernel_rfl) ?_ | refine hP _ _ (fun _ => ?_) | refine hP _ _ (by kernel_rfl) (fun _ => ?_)); clear hQ hP Q) | refine GW_block ?_ | refine GW_ret ?_ | refine GW_skip ?_ | refine GW_exit ?_ | refine GW_goto ?_ | refine GW_label ?_ | simp only [blockG_exit] | (refine GW_cond (by simp; rfl) ?_ ?_ <;> (intro hb; first | (exfalso; exact absurd hb (by decide)) | skip)))
            intro C2 hC2 hh2 hY2
            clear hC hY
            have hC := hC2
            have hY := hY2
            have hi' : (N : Int) < n := by omega
            have hz : (0 : Int) ≤ N := by omega
            have hl := row_vec (p := p) (q := q) h2 h3 hin
            have hx3 := (right_b c0 hin).1
            have hM : N * 6 + 3 ≤ M2 := by omega
            rcases eaE_or addI (f (6 * N)) (f (6 * N + 1)) (f (6 * N + 2)) (dwV f p q N 0) (dwV f p q N 1) (dwV f p q N 2) with he | he
            · have hfn := he
              have hok' : inV 1048576 (addI (f (6 * N)) (dwV f p q N 0)) (addI (f (6 * N + 1)) (dwV f p q N 1)) (addI (f (6 * N + 2)) (dwV f p q N 2)) = false := hok
              have hw := ea_in he
              have w0 := hw.1
              have w1 := hw.2.1
              have w2 := hw.2.2
              repeat' (first | refine GW_seq ?_ | simp only [List.length_cons, List.length_nil, Nat.reduceAdd, Nat.reduceMul, wN] | ((first | refine GW_region' [] (by kernel_rfl) ?_ | refine GW_draw' [] follows (by kernel_rfl) (by kernel_rfl) ?_); intro Q hQ hP; simp [hC, hY, roundTs, jb, hi', hz, hl, he, eaV_0, hok', w0, w1, w2, hM, i64_box]; (first | refine hQ _ _ _ _ ?_ | refine hQ _ _ _ _ (by kernel_rfl) ?_ | refine hP _ _ (fun _ => ?_) | refine hP _ _ (by kernel_rfl) (fun _ => ?_)); clear hQ hP Q) | refine GW_block ?_ | refine GW_ret ?_ | refine GW_skip ?_ | refine GW_exit ?_ | refine GW_goto ?_ | refine GW_label ?_ | simp only [blockG_exit] | (refine GW_cond (by simp; rfl) ?_ ?_ <;> (intro hb; first | (exfalso; exact absurd hb (by decide)) | skip)))
              refine ⟨by simp [outCode], by simp [idsV, idsA, idsF, ids0, dom], by simp, rfl, drSt b st off n cap c2 M2 (mvG g2 f p q N) 20, 0, weakL _ 600 hCC G0F (m0 := [(100, b)]) hC0 (by omega) ?_ ?_ ?_, ⟨c2, M2, mvG g2 f p q N, 20, hE, by omega, rfl⟩⟩
              · simp [idsV, idsA, idsF, ids0, dom, addB]
              · simp [stB', erB, ids_lit, idsF, ids0, hid, dom, addB, Blk.fx_ids (fa_fx _ _ _)]
              · simp [addB]
            ·
              repeat' (first | refine GW_seq ?_ | simp only [List.length_cons, List.length_nil, Nat.reduceAdd, Nat.reduceMul, wN] | ((first | refine GW_region' [] (by kernel_rfl) ?_ | refine GW_draw' [] follows (by kernel_rfl) (by kernel_rfl) ?_); intro Q hQ hP; simp [hC, hY, roundTs, jb, hi', hz, hl, he, eaV_0, hM, i64_box]; (first | refine hQ _ _ _ _ ?_ | refine hQ _ _ _ _ (by kernel_rfl) ?_ | refine hP _ _ (fun _ => ?_) | refine hP _ _ (by kernel_rfl) (fun _ => ?_)); clear hQ hP Q) | refine GW_block ?_ | refine GW_ret ?_ | refine GW_skip ?_ | refine GW_exit ?_ | refine GW_goto ?_ | refine GW_label ?_ | simp only [blockG_exit] | (refine GW_cond (by simp; rfl) ?_ ?_ <;> (intro hb; first | (exfalso; exact absurd hb (by decide)) | skip)))
              refine ⟨by simp [outCode], by simp [idsV, idsA, idsF, ids0, dom], by simp, rfl, drSt b st off n cap c2 M2 (mvG g2 f p q N) 20, 0, weakL _ 600 hCC G0F (m0 := [(100, b)]) hC0 (by omega) ?_ ?_ ?_, ⟨c2, M2, mvG g2 f p q N, 20, hE, by omega, rfl⟩⟩
              · simp [idsV, idsA, idsF, ids0, dom, addB]
              · simp [stB', erB, ids_lit, idsF, ids0, hid, dom, addB, Blk.fx_ids (fa_fx _ _ _)]
              · simp [addB]
end Go.Gy
namespace Go.Gy
set_option linter.unusedSimpArgs false
set_option linter.unusedVariables false
open Go Go.RowKit Go.Proofs
theorem driftR_rr {nk nk' n : Nat} {st E : Int} {F : Nat → Int} {ρ : Nat → Nat} (h : ρ nk = nk') : RR ρ (DriftR nk st n F E) = DriftR nk' st n F E := by
  funext v ns
  apply propext
  constructor
  · rintro ⟨v0, ns0, ⟨w, ⟨c, M, g, h1, h2, h3, rfl, rfl⟩, rfl⟩, rfl, rfl⟩
    exact ⟨_, ⟨c, M, g, h1, h2, h3, rfl, by simp [rnL, fa_rn, h]⟩, by simp [ren, renA, renF, ren0, h]⟩
  · rintro ⟨w, ⟨c, M, g, h1, h2, h3, rfl, rfl⟩, rfl⟩
    exact ⟨_, _, ⟨_, ⟨c, M, g, h1, h2, h3, rfl, rfl⟩, rfl⟩, by simp [ren, renA, renF, ren0, h], by simp [rnL, fa_rn, h]⟩
theorem driftR_key {nk n : Nat} {st E : Int} {F : Nat → Int} {v : Value} {ns : List (Nat × Blk)} (h : DriftR nk st n F E v ns) : ∀ k ∈ keys ns, k = nk := by
  obtain ⟨w, ⟨c, M, g, h1, h2, h3, rfl, rfl⟩, rfl⟩ := h
  simp [keys]
/-- Block 100 stands at nb, a new one's name is nk. -/
def nn2 (nb nk k : Nat) : Nat := if k = 100 then nb else if k = 1000 then nk else k
theorem nn2_low {nb nk : Nat} (k : Nat) (hk : k < 100) : nn2 nb nk k = k := by
  unfold nn2
  rw [if_neg (by omega), if_neg (by omega)]
theorem nn2_b {nb nk : Nat} : nn2 nb nk 100 = nb := by simp [nn2]
theorem nn2_k {nb nk : Nat} : nn2 nb nk 1000 = nk := by simp [nn2]
theorem at_low {nb : Nat} {b : Blk} (h : 100 ≤ nb) (k : Nat) (hk : k < 100) : hpL G0 [(nb, b)] k = G0 k := by
  simp only [hpL_cons, hpL_nil]
  rw [if_neg (by omega)]
theorem drift_at (nb nk : Nat) (hb1 : 100 ≤ nb) (hk1 : 100 ≤ nk) (hbk : nb ≠ nk) (b : Blk) (off n cap : Nat) (f : Nat → Int) (h : SB b off n f) (hcap : n ≤ cap) (st p q : Int) (hs : i64 st) (hp : i64 p) (hq : i64 q) :
    FunS Tryd.prog G0 21 #[.agg #[.int .i64 st, .slice (some ⟨nb, off, none⟩) n cap], .int .i64 p, .int .i64 q] (hpL G0 [(nb, b)]) [nb] (DriftR nk st n (drF st f n p q) (drE st f n p q)) := by
  have hr := fun ρ => Blk.fx_rn h.fx ρ
  refine (drift_fun b off n cap f h hcap st p q hs hp hq).mvL G0F (oneL_ok h.fx) (nn2 nb nk) nn2_low (by simp [ren, renA, renF, ren0, nn2_b]) (by simp [keys, nn2_b]) (driftR_rr nn2_k) (at_low hb1) (by simp [nn2_b, hr, hb1]) (by simp [keys]) (fun v ns hV k hk => ?_) (fun v ns hV k hk l hl _ => by rw [driftR_key hV k hk, driftR_key hV l hl])
  rw [driftR_key hV k hk, nn2_k]
  simp
  exact ⟨hk1, fun e => hbk e.symm⟩
theorem waysR_rr {nk nk' n : Nat} {G : Nat → Int} {ok : Bool} {ρ : Nat → Nat} (h : ρ nk = nk') : RR ρ (WaysR nk n G ok) = WaysR nk' n G ok := by
  funext v ns
  apply propext
  constructor
  · rintro ⟨v0, ns0, ⟨w, hV, rfl⟩, rfl, rfl⟩
    rcases hV with ⟨h1, rfl, rfl⟩ | ⟨c, g, h1, h2, h3, rfl, rfl⟩
    · exact ⟨_, .inl ⟨h1, rfl, by simp [rnL]⟩, by simp [ren, renA, renF, ren0]⟩
    · exact ⟨_, .inr ⟨c, g, h1, h2, h3, rfl, by simp [rnL, fa_rn, h]⟩, by simp [ren, renA, renF, ren0, h]⟩
  · rintro ⟨w, hV, rfl⟩
    rcases hV with ⟨h1, rfl, rfl⟩ | ⟨c, g, h1, h2, h3, rfl, rfl⟩
    · exact ⟨_, _, ⟨_, .inl ⟨h1, rfl, rfl⟩, rfl⟩, by simp [ren, renA, renF, ren0], by simp [rnL]⟩
    · exact ⟨_, _, ⟨_, .inr ⟨c, g, h1, h2, h3, rfl, rfl⟩, rfl⟩, by simp [ren, renA, renF, ren0, h], by simp [rnL, fa_rn, h]⟩
theorem dWays_at (nb nk : Nat) (hb1 : 100 ≤ nb) (hk1 : 100 ≤ nk) (hbk : nb ≠ nk) (b : Blk) (off n cap : Nat) (f : Nat → Int) (h : SB b off n f) (st p q : Int) (hs : i64 st) (hp : i64 p) (hq : i64 q) :
    FunS Tryd.prog G0 19 #[.agg #[.int .i64 st, .slice (some ⟨nb, off, none⟩) n cap], .int .i64 p, .int .i64 q] (hpL G0 [(nb, b)]) [nb] (WaysR nk n (vecsG f p q) (rightB st f n && partB p q)) := by
  have hr := fun ρ => Blk.fx_rn h.fx ρ
  refine (dWays_fun b off n cap f h st p q hs hp hq).mvL G0F (oneL_ok h.fx) (nn2 nb nk) nn2_low (by simp [ren, renA, renF, ren0, nn2_b]) (by simp [keys, nn2_b]) (waysR_rr nn2_k) (at_low hb1) (by simp [nn2_b, hr, hb1]) (by simp [keys]) (fun v ns hV k hk => ?_) (fun v ns hV k hk l hl _ => ?_)
  · obtain ⟨w, hV, rfl⟩ := hV
    rw [vecR_key hV k hk, nn2_k]
    simp
    exact ⟨hk1, fun e => hbk e.symm⟩
  · obtain ⟨w, hV, rfl⟩ := hV
    rw [vecR_key hV k hk, vecR_key hV l hl]
/-! wakes -/
def wkL (x : Int) : Nat → Int := fun j => [x, 2, 3, 5, -5, 0].getD j 0
def wkB (x : Int) : Blk := ⟨#[.int .i64 x, .int .i64 2, .int .i64 3, .int .i64 5, .int .i64 (-5), .int .i64 0], .ty 44⟩
theorem wkB_eq (x : Int) : wkB x = ⟨fa 6 .i64 (wkL x), .ty 44⟩ := by rw [fa_6]; rfl
theorem wkSB (x : Int) (hx : i64 x) : SB (wkB x) 0 1 (wkL x) := by
  rw [wkB_eq]
  refine ⟨rdI_fa _ _ _, fa_fx _ _ _, fun j hj => ?_, by omega⟩
  obtain rfl | rfl | rfl | rfl | rfl | rfl : j = 0 ∨ j = 1 ∨ j = 2 ∨ j = 3 ∨ j = 4 ∨ j = 5 := by omega
  · exact hx
  all_goals (simp [wkL, i64])
theorem wkE0 : drE 4 (wkL 1) 1 1 2 = 0 := by decide +kernel
theorem wkE1 : drE 4 (wkL 1) 1 1 0 = 2 := by decide +kernel
theorem wkE2 : drE 4 (wkL 1048576) 1 1 2 = 20 := by decide +kernel
theorem wkF0 : drF 4 (wkL 1) 1 1 2 0 = 4 ∧ drF 4 (wkL 1) 1 1 2 1 = -1 ∧ drF 4 (wkL 1) 1 1 2 2 = 3 := by decide +kernel
theorem wkW : (rightB 4 (wkL 1048576) 1 && partB (-1) 5) = true := by decide +kernel
theorem wkG : vecsG (wkL 1048576) (-1) 5 0 = -1 ∧ vecsG (wkL 1048576) (-1) 5 1 = 1 ∧ vecsG (wkL 1048576) (-1) 5 2 = 0 := by decide +kernel
theorem wk1 : d1V 3 1 2 = 2 ∧ d1E 3 1 2 = 0 ∧ d1V (-3) 1 2 = -2 ∧ d1E (-3) 1 2 = 0 := by decide +kernel
theorem wkP : partB (-2097152) 1 = true ∧ partB 1 (-1) = false := by decide +kernel
theorem i64_n {z : Int} (h : -9223372036854775808 ≤ z ∧ z ≤ 9223372036854775807) : i64 z := ⟨by omega, by omega⟩
set_option maxRecDepth 8000 in
set_option maxHeartbeats 4000000 in
theorem wakes15_ret : Ret Tryd.prog G0 12 #[] (.bool true) := by
  refine ret_of G0F Tryd.func12 rfl Tryd.call12 rfl (by simp) (by simp [Tryd.ntmps12]) ?_
  intro C hC hC0 hY
  have j0 : i64 3 := i64_n (by omega)
  have j1 : i64 (-3) := i64_n (by omega)
  have j2 : i64 1 := i64_n (by omega)
  have j3 : i64 2 := i64_n (by omega)
  have j4 : i64 4 := i64_n (by omega)
  have j5 : i64 0 := i64_n (by omega)
  have j6 : i64 (-1) := i64_n (by omega)
  have j7 : i64 5 := i64_n (by omega)
  have j8 : i64 (-2097152) := i64_n (by omega)
  obtain ⟨w0, w1, w2, w3⟩ := wk1
  repeat' (first | refine GW_seq ?_ | simp only [List.length_cons, List.length_nil, Nat.reduceAdd, Nat.reduceMul, wN] | ((first | refine GW_region' [] (by kernel_rfl) ?_ | refine GW_draw' [] follows (by kernel_rfl) (by kernel_rfl) ?_); intro Q hQ hP; simp [hC, hY, j0, j1, j2, j3, w0, w1, w2, w3]; (first | refine hQ _ _ _ _ ?_ | refine hQ _ _ _ _ (by kernel_rfl) ?_ | refine hP _ _ (fun _ => ?_) | refine hP _ _ (by kernel_rfl) (fun _ => ?_)); clear hQ hP Q) | refine GW_block ?_ | refine GW_ret ?_ | refine GW_skip ?_ | refine GW_exit ?_ | refine GW_goto ?_ | refine GW_label ?_ | simp only [blockG_exit] | (refine GW_cond (by simp; rfl) ?_ ?_ <;> (intro hb; first | (exfalso; exact absurd hb (by decide)) | skip)))
  have da := drift_at 328 368 (by omega) (by omega) (by omega) (wkB 1) 0 1 1 (wkL 1) (wkSB 1 j2) (Nat.le_refl _) 4 1 2 j4 j2 j3
  rw [wkE0] at da
  refine GW_list ?_
  simp only [Array.toList]
  refine GL_walk 1 [] rfl (by simp) (by kernel_rfl) ?_; intro q hq; simp [hC, hY]; refine hq _ _ _ _ ?_; clear hq q
  simp only [wT, List.length_cons, List.length_nil, Nat.reduceAdd]
  refine GL_callL (f := .func 21) (cap := #[]) hC da rfl (by simp) rfl rfl (by simp [okT]) (by simp [gev]) (by simp) (by simp [okX, junk]) (by simp [gev]) (by simp [wkB]) (by (intro k hk; first | rfl | (simp (disch := omega) only [addB, List.mem_cons, List.not_mem_nil, or_false, upd_other, hpL_cons, hpL_nil, if_neg, updL] <;> done))) ?_ ?_
  · intro v ns hV k hk
    rw [driftR_key hV k hk]
    omega
  rintro v ns ⟨w, ⟨ca, Ma, ga, k1a, k2a, k3a, rfl, rfl⟩, rfl⟩
  refine GL_walk 6 [] rfl (by simp) (by kernel_rfl) ?_; intro q hq; simp [hC, hY, putT, updL]; refine hq _ _ _ _ ?_; clear hq q
  simp only [wT, List.length_cons, List.length_nil, Nat.reduceAdd]
  refine GL_nil ?_
  repeat' (first | refine GW_seq ?_ | simp only [List.length_cons, List.length_nil, Nat.reduceAdd, Nat.reduceMul, wN] | ((first | refine GW_region' [] (by kernel_rfl) ?_ | refine GW_draw' [] follows (by kernel_rfl) (by kernel_rfl) ?_); intro Q hQ hP; simp [hC, hY]; (first | refine hQ _ _ _ _ ?_ | refine hQ _ _ _ _ (by kernel_rfl) ?_ | refine hP _ _ (fun _ => ?_) | refine hP _ _ (by kernel_rfl) (fun _ => ?_)); clear hQ hP Q) | refine GW_block ?_ | refine GW_ret ?_ | refine GW_skip ?_ | refine GW_exit ?_ | refine GW_goto ?_ | refine GW_label ?_ | simp only [blockG_exit] | (refine GW_cond (by simp; rfl) ?_ ?_ <;> (intro hb; first | (exfalso; exact absurd hb (by decide)) | skip)))
  have db := drift_at 328 432 (by omega) (by omega) (by omega) (wkB 1) 0 1 1 (wkL 1) (wkSB 1 j2) (Nat.le_refl _) 4 1 0 j4 j2 j5
  rw [wkE1] at db
  refine GW_list ?_
  simp only [Array.toList]
  refine GL_walk 1 [] rfl (by simp) (by kernel_rfl) ?_; intro q hq; simp [hC, hY]; refine hq _ _ _ _ ?_; clear hq q
  simp only [wT, List.length_cons, List.length_nil, Nat.reduceAdd]
  refine GL_callL (f := .func 21) (cap := #[]) hC db rfl (by simp) rfl rfl (by simp [okT]) (by simp [gev]) (by simp) (by simp [okX, junk]) (by simp [gev]) (by simp [wkB]) (by (intro k hk; first | rfl | (simp (disch := omega) only [addB, List.mem_cons, List.not_mem_nil, or_false, upd_other, hpL_cons, hpL_nil, if_neg, updL] <;> done))) ?_ ?_
  · intro v ns hV k hk
    rw [driftR_key hV k hk]
    omega
  rintro v ns ⟨w, ⟨cb, Mb, gb, k1b, k2b, k3b, rfl, rfl⟩, rfl⟩
  refine GL_walk 6 [] rfl (by simp) (by kernel_rfl) ?_; intro q hq; simp [hC, hY, putT, updL]; refine hq _ _ _ _ ?_; clear hq q
  simp only [wT, List.length_cons, List.length_nil, Nat.reduceAdd]
  refine GL_nil ?_
  repeat' (first | refine GW_seq ?_ | simp only [List.length_cons, List.length_nil, Nat.reduceAdd, Nat.reduceMul, wN] | ((first | refine GW_region' [] (by kernel_rfl) ?_ | refine GW_draw' [] follows (by kernel_rfl) (by kernel_rfl) ?_); intro Q hQ hP; simp [hC, hY]; (first | refine hQ _ _ _ _ ?_ | refine hQ _ _ _ _ (by kernel_rfl) ?_ | refine hP _ _ (fun _ => ?_) | refine hP _ _ (by kernel_rfl) (fun _ => ?_)); clear hQ hP Q) | refine GW_block ?_ | refine GW_ret ?_ | refine GW_skip ?_ | refine GW_exit ?_ | refine GW_goto ?_ | refine GW_label ?_ | simp only [blockG_exit] | (refine GW_cond (by simp; rfl) ?_ ?_ <;> (intro hb; first | (exfalso; exact absurd hb (by decide)) | skip)))
  have dc := drift_at 328 544 (by omega) (by omega) (by omega) (wkB 1048576) 0 1 1 (wkL 1048576) (wkSB 1048576 i64_box) (Nat.le_refl _) 4 1 2 j4 j2 j3
  rw [wkE2] at dc
  refine GW_list ?_
  simp only [Array.toList]
  refine GL_walk 1 [] rfl (by simp) (by kernel_rfl) ?_; intro q hq; simp [hC, hY]; refine hq _ _ _ _ ?_; clear hq q
  simp only [wT, List.length_cons, List.length_nil, Nat.reduceAdd]
  refine GL_callL (f := .func 21) (cap := #[]) hC dc rfl (by simp) rfl rfl (by simp [okT]) (by simp [gev]) (by simp) (by simp [okX, junk]) (by simp [gev]) (by simp [wkB]) (by (intro k hk; first | rfl | (simp (disch := omega) only [addB, List.mem_cons, List.not_mem_nil, or_false, upd_other, hpL_cons, hpL_nil, if_neg, updL] <;> done))) ?_ ?_
  · intro v ns hV k hk
    rw [driftR_key hV k hk]
    omega
  rintro v ns ⟨w, ⟨cc, Mc, gc, k1c, k2c, k3c, rfl, rfl⟩, rfl⟩
  refine GL_walk 6 [] rfl (by simp) (by kernel_rfl) ?_; intro q hq; simp [hC, hY, putT, updL]; refine hq _ _ _ _ ?_; clear hq q
  simp only [wT, List.length_cons, List.length_nil, Nat.reduceAdd]
  refine GL_nil ?_
  repeat' (first | refine GW_seq ?_ | simp only [List.length_cons, List.length_nil, Nat.reduceAdd, Nat.reduceMul, wN] | ((first | refine GW_region' [] (by kernel_rfl) ?_ | refine GW_draw' [] follows (by kernel_rfl) (by kernel_rfl) ?_); intro Q hQ hP; simp [hC, hY]; (first | refine hQ _ _ _ _ ?_ | refine hQ _ _ _ _ (by kernel_rfl) ?_ | refine hP _ _ (fun _ => ?_) | refine hP _ _ (by kernel_rfl) (fun _ => ?_)); clear hQ hP Q) | refine GW_block ?_ | refine GW_ret ?_ | refine GW_skip ?_ | refine GW_exit ?_ | refine GW_goto ?_ | refine GW_label ?_ | simp only [blockG_exit] | (refine GW_cond (by simp; rfl) ?_ ?_ <;> (intro hb; first | (exfalso; exact absurd hb (by decide)) | skip)))
  have dw := dWays_at 328 608 (by omega) (by omega) (by omega) (wkB 1048576) 0 1 1 (wkL 1048576) (wkSB 1048576 i64_box) 4 (-1) 5 j4 j6 j7
  rw [wkW] at dw
  refine GW_list ?_
  simp only [Array.toList]
  refine GL_walk 1 [] rfl (by simp) (by kernel_rfl) ?_; intro q hq; simp [hC, hY]; refine hq _ _ _ _ ?_; clear hq q
  simp only [wT, List.length_cons, List.length_nil, Nat.reduceAdd]
  refine GL_callL (f := .func 19) (cap := #[]) hC dw rfl (by simp) rfl rfl (by simp [okT]) (by simp [gev]) (by simp) (by simp [okX, junk]) (by simp [gev]) (by simp [wkB]) (by (intro k hk; first | rfl | (simp (disch := omega) only [addB, List.mem_cons, List.not_mem_nil, or_false, upd_other, hpL_cons, hpL_nil, if_neg, updL] <;> done))) ?_ ?_
  · rintro v ns ⟨w, hV, rfl⟩ k hk
    rw [vecR_key hV k hk]
    omega
  rintro v ns ⟨w, hV, rfl⟩
  rcases hV with ⟨h1, _⟩ | ⟨cd, gd, kd0, kd1, kd2, rfl, rfl⟩
  · simp at h1
  refine GL_walk 5 [] rfl (by simp) (by kernel_rfl) ?_; intro q hq; simp [hC, hY, putT, updL]; refine hq _ _ _ _ ?_; clear hq q
  simp only [wT, List.length_cons, List.length_nil, Nat.reduceAdd]
  refine GL_nil ?_
  have e0 : ga 0 = 4 := (k3a 0 (by omega)).trans wkF0.1
  have e1 : ga 1 = -1 := (k3a 1 (by omega)).trans wkF0.2.1
  have e2 : ga 2 = 3 := (k3a 2 (by omega)).trans wkF0.2.2
  have x0 : gd 0 = -1 := (kd2 0 (by simp)).trans wkG.1
  have x1 : gd 1 = 1 := (kd2 1 (by simp)).trans wkG.2.1
  have x2 : gd 2 = 0 := (kd2 2 (by simp)).trans wkG.2.2
  have l0 : loadK Tryd.prog 26 ⟨fa Ma .i64 ga, .ty 44⟩ 0 = some (.agg #[.int .i64 4, .int .i64 (-1), .int .i64 3]) := by
    have := loadK_rd (P := Tryd.prog) (T := 26) (m := 3) (j := 0) (tyAgg_of Tryd.isAgg26) (tySize_of Tryd.sizeOf26) (by omega) (rdI_fa Ma ga (.ty 44)) (by omega)
    rw [fa_3] at this
    simpa [e0, e1, e2] using this
  have l1 : loadK Tryd.prog 26 ⟨fa (3 * cd) .i64 gd, .ty 26⟩ 0 = some (.agg #[.int .i64 (-1), .int .i64 1, .int .i64 0]) := by
    have := loadK_rd (P := Tryd.prog) (T := 26) (m := 3) (j := 0) (tyAgg_of Tryd.isAgg26) (tySize_of Tryd.sizeOf26) (by omega) (rdI_fa (3 * cd) gd (.ty 26)) (by simp at kd1; omega)
    rw [fa_3] at this
    simpa [x0, x1, x2] using this
  repeat' (first | refine GW_seq ?_ | simp only [List.length_cons, List.length_nil, Nat.reduceAdd, Nat.reduceMul, wN] | ((first | refine GW_region' [] (by kernel_rfl) ?_ | refine GW_draw' [] follows (by kernel_rfl) (by kernel_rfl) ?_); intro Q hQ hP; simp [hC, hY, l0, l1, j2, j8, wkP.1, wkP.2]; (first | refine hQ _ _ _ _ ?_ | refine hQ _ _ _ _ (by kernel_rfl) ?_ | refine hP _ _ (fun _ => ?_) | refine hP _ _ (by kernel_rfl) (fun _ => ?_)); clear hQ hP Q) | refine GW_block ?_ | refine GW_ret ?_ | refine GW_skip ?_ | refine GW_exit ?_ | refine GW_goto ?_ | refine GW_label ?_ | simp only [blockG_exit] | (refine GW_cond (by simp; rfl) ?_ ?_ <;> (intro hb; first | (exfalso; exact absurd hb (by decide)) | skip)))
  refine ⟨.inr trivial, ?_⟩
  simp [Tryd.results12]
@[simp] theorem wakes15 (K : Value → Prop) : callK Tryd.prog G0 12 #[] K ↔ K (.bool true) := callK_iff G0W (by kernel_rfl) wakes15_ret
end Go.Gy
namespace Go.Gy
set_option linter.unusedSimpArgs false
set_option linter.unusedVariables false
open Go Go.RowKit Go.Proofs
theorem d1_out {v n d : Int} (h : ¬ (partB n d = true ∧ -1073741824 ≤ v ∧ v ≤ 1073741824)) : d1E v n d = 2 ∧ d1V v n d = 0 := by
  unfold d1E d1V
  rw [if_neg h, if_neg h]
  exact ⟨rfl, rfl⟩
theorem d1_at {v n d : Int} (hp : partB n d = true) (h1 : -1073741824 ≤ v) (h2 : v ≤ 1073741824) : d1E v n d = 0 ∧ d1V v n d = nearQ (v * n) d := by
  unfold d1E d1V
  rw [if_pos ⟨hp, h1, h2⟩, if_pos ⟨hp, h1, h2⟩]
  exact ⟨rfl, rfl⟩
theorem partB_neg {n d : Int} (h : partB n d = true) : partB (-n) d = true := by
  have := partB_t h
  unfold partB
  exact decide_eq_true (by omega)
set_option maxHeartbeats 4000000 in
set_option maxRecDepth 8000 in
theorem DriftHalf_ret (v n d : Int) (hv : i64 v) (hn : i64 n) (hd : i64 d) : Ret Tryd.prog G0 5 #[.int .i64 v, .int .i64 n, .int .i64 d] (.bool true) := by
  refine ret_of G0F Tryd.func5 rfl Tryd.call5 (by simp) (by simp) (by simp [Tryd.ntmps5]) ?_
  intro C hC hC0 hY
  by_cases c1 : v < -1073741824
  · obtain ⟨e1, e2⟩ := d1_out (v := v) (n := n) (d := d) (by omega)
    repeat' (first | refine GW_seq ?_ | simp only [List.length_cons, List.length_nil, Nat.reduceAdd, Nat.reduceMul, wN] | ((first | refine GW_region' [] (by kernel_rfl) ?_ | refine GW_draw' [] follows (by kernel_rfl) (by kernel_rfl) ?_); intro Q hQ hP; simp [hC, hY, hn, hv, hd, c1, e1, e2]; (first | refine hQ _ _ _ _ ?_ | refine hQ _ _ _ _ (by kernel_rfl) ?_ | refine hP _ _ (fun _ => ?_) | refine hP _ _ (by kernel_rfl) (fun _ => ?_)); clear hQ hP Q) | refine GW_block ?_ | refine GW_ret ?_ | refine GW_skip ?_ | refine GW_exit ?_ | refine GW_goto ?_ | refine GW_label ?_ | simp only [blockG_exit] | (refine GW_cond (by simp; rfl) ?_ ?_ <;> (intro hb; first | (exfalso; exact absurd hb (by decide)) | skip)))
    refine ⟨.inr trivial, ?_⟩
    simp [Tryd.results5]
  by_cases c2 : 1073741824 < v
  · obtain ⟨e1, e2⟩ := d1_out (v := v) (n := n) (d := d) (by omega)
    repeat' (first | refine GW_seq ?_ | simp only [List.length_cons, List.length_nil, Nat.reduceAdd, Nat.reduceMul, wN] | ((first | refine GW_region' [] (by kernel_rfl) ?_ | refine GW_draw' [] follows (by kernel_rfl) (by kernel_rfl) ?_); intro Q hQ hP; simp [hC, hY, hn, hv, hd, c1, c2, e1, e2]; (first | refine hQ _ _ _ _ ?_ | refine hQ _ _ _ _ (by kernel_rfl) ?_ | refine hP _ _ (fun _ => ?_) | refine hP _ _ (by kernel_rfl) (fun _ => ?_)); clear hQ hP Q) | refine GW_block ?_ | refine GW_ret ?_ | refine GW_skip ?_ | refine GW_exit ?_ | refine GW_goto ?_ | refine GW_label ?_ | simp only [blockG_exit] | (refine GW_cond (by simp; rfl) ?_ ?_ <;> (intro hb; first | (exfalso; exact absurd hb (by decide)) | skip)))
    refine ⟨.inr trivial, ?_⟩
    simp [Tryd.results5]
  cases hp : partB n d with
  | false =>
    obtain ⟨e1, e2⟩ := d1_out (v := v) (n := n) (d := d) (by simp [hp])
    repeat' (first | refine GW_seq ?_ | simp only [List.length_cons, List.length_nil, Nat.reduceAdd, Nat.reduceMul, wN] | ((first | refine GW_region' [] (by kernel_rfl) ?_ | refine GW_draw' [] follows (by kernel_rfl) (by kernel_rfl) ?_); intro Q hQ hP; simp [hC, hY, hn, hv, hd, c1, c2, hp, e1, e2]; (first | refine hQ _ _ _ _ ?_ | refine hQ _ _ _ _ (by kernel_rfl) ?_ | refine hP _ _ (fun _ => ?_) | refine hP _ _ (by kernel_rfl) (fun _ => ?_)); clear hQ hP Q) | refine GW_block ?_ | refine GW_ret ?_ | refine GW_skip ?_ | refine GW_exit ?_ | refine GW_goto ?_ | refine GW_label ?_ | simp only [blockG_exit] | (refine GW_cond (by simp; rfl) ?_ ?_ <;> (intro hb; first | (exfalso; exact absurd hb (by decide)) | skip)))
    refine ⟨.inr trivial, ?_⟩
    simp [Tryd.results5]
  | true =>
    have hb := partB_t hp
    have d0 : 0 < d := by omega
    obtain ⟨e0, x0⟩ := d1_at (v := v) hp (by omega) (by omega)
    obtain ⟨e1, x1⟩ := d1_at (v := -v) hp (by omega) (by omega)
    obtain ⟨e2, x2⟩ := d1_at (v := v) (partB_neg hp) (by omega) (by omega)
    have hbd := d1_bd (v := v) hp (by omega) (by omega)
    rw [Int.neg_mul, nearQ_neg d0] at x1
    rw [Int.mul_neg, nearQ_neg d0] at x2
    have hrest := nearQ_rest (a := v * n) d0
    obtain ⟨x, hx⟩ : ∃ x, nearQ (v * n) d = x := ⟨_, rfl⟩
    rw [hx] at x0 x1 x2 hrest hbd
    rw [Int.mul_comm v n] at hrest
    obtain ⟨r, hr⟩ : ∃ r, n * v - x * d = r := ⟨_, rfl⟩
    rw [hr] at hrest
    obtain ⟨q1, q2, q3, q4⟩ := hrest
    obtain ⟨_, hx1, hx2⟩ := hbd
    have i1 : i64 (-v) := ⟨by omega, by omega⟩
    have i2 : i64 (-n) := ⟨by omega, by omega⟩
    have i3 : i64 x := ⟨by omega, by omega⟩
    have i4 : i64 r := ⟨by omega, by omega⟩
    have b1 : Int.bmod (-v) 18446744073709551616 = -v := bm (by omega) (by omega)
    have b2 : Int.bmod (-n) 18446744073709551616 = -n := bm (by omega) (by omega)
    have b3 : Int.bmod (-x) 18446744073709551616 = -x := bm (by omega) (by omega)
    have b4 : Int.bmod (-d) 18446744073709551616 = -d := bm (by omega) (by omega)
    have b5 : Int.bmod (2 * r) 18446744073709551616 = 2 * r := bm (by omega) (by omega)
    have b6 : Int.bmod (-2 * r) 18446744073709551616 = -2 * r := bm (by omega) (by omega)
    have s1 := hv.sm.sz
    have s2 := hn.sm.sz
    have s3 := i3.sm.sz
    have s4 := hd.sm.sz
    have s5 := i4.sm.sz
    have g1 : ¬ 4503599627370496 < x := by omega
    have g2 : ¬ x < -4503599627370496 := by omega
    have g3 : ¬ d < r := by omega
    have g4 : ¬ r < -d := by omega
    have g5 : ¬ d < 2 * r := by omega
    have g6 : ¬ d < -2 * r := by omega
    by_cases t1 : 2 * r = d
    · have t2 : ¬ 0 < x := by have := q3 t1; omega
      have b7 : Int.bmod d 18446744073709551616 = d := bm (by omega) (by omega)
      have t3 : (-2 * r == d) = false := by rw [beq_eq_false_iff_ne]; omega
      repeat' (first | refine GW_seq ?_ | simp only [List.length_cons, List.length_nil, Nat.reduceAdd, Nat.reduceMul, wN] | ((first | refine GW_region' [] (by kernel_rfl) ?_ | refine GW_draw' [] follows (by kernel_rfl) (by kernel_rfl) ?_); intro Q hQ hP; simp [hC, hY, hn, hv, hd, c1, c2, hp, e0, e1, e2, x0, x1, x2, hr, i1, i2, i3, i4, b1, b2, b3, b4, b5, b6, s1, s2, s3, s4, s5, g1, g2, g3, g4, g5, g6, t1, t2, t3, b7]; (first | refine hQ _ _ _ _ ?_ | refine hQ _ _ _ _ (by kernel_rfl) ?_ | refine hP _ _ (fun _ => ?_) | refine hP _ _ (by kernel_rfl) (fun _ => ?_)); clear hQ hP Q) | refine GW_block ?_ | refine GW_ret ?_ | refine GW_skip ?_ | refine GW_exit ?_ | refine GW_goto ?_ | refine GW_label ?_ | simp only [blockG_exit] | (refine GW_cond (by simp; rfl) ?_ ?_ <;> (intro hb; first | (exfalso; exact absurd hb (by decide)) | skip)))
      refine ⟨.inr trivial, ?_⟩
      simp [Tryd.results5]
    have t1' : (2 * r == d) = false := by rw [beq_eq_false_iff_ne]; exact t1
    by_cases t4 : -2 * r = d
    · have t5 : ¬ x < 0 := by have := q4 (by omega); omega
      have t6 : (-2 * r == d) = true := by rw [beq_iff_eq]; exact t4
      have b7 : Int.bmod d 18446744073709551616 = d := bm (by omega) (by omega)
      repeat' (first | refine GW_seq ?_ | simp only [List.length_cons, List.length_nil, Nat.reduceAdd, Nat.reduceMul, wN] | ((first | refine GW_region' [] (by kernel_rfl) ?_ | refine GW_draw' [] follows (by kernel_rfl) (by kernel_rfl) ?_); intro Q hQ hP; simp [hC, hY, hn, hv, hd, c1, c2, hp, e0, e1, e2, x0, x1, x2, hr, i1, i2, i3, i4, b1, b2, b3, b4, b5, b6, s1, s2, s3, s4, s5, g1, g2, g3, g4, g5, g6, t1', t5, t6, b7]; (first | refine hQ _ _ _ _ ?_ | refine hQ _ _ _ _ (by kernel_rfl) ?_ | refine hP _ _ (fun _ => ?_) | refine hP _ _ (by kernel_rfl) (fun _ => ?_)); clear hQ hP Q) | refine GW_block ?_ | refine GW_ret ?_ | refine GW_skip ?_ | refine GW_exit ?_ | refine GW_goto ?_ | refine GW_label ?_ | simp only [blockG_exit] | (refine GW_cond (by simp; rfl) ?_ ?_ <;> (intro hb; first | (exfalso; exact absurd hb (by decide)) | skip)))
      refine ⟨.inr trivial, ?_⟩
      simp [Tryd.results5]
    have t4' : (-2 * r == d) = false := by rw [beq_eq_false_iff_ne]; exact t4
    repeat' (first | refine GW_seq ?_ | simp only [List.length_cons, List.length_nil, Nat.reduceAdd, Nat.reduceMul, wN] | ((first | refine GW_region' [] (by kernel_rfl) ?_ | refine GW_draw' [] follows (by kernel_rfl) (by kernel_rfl) ?_); intro Q hQ hP; simp [hC, hY, hn, hv, hd, c1, c2, hp, e0, e1, e2, x0, x1, x2, hr, i1, i2, i3, i4, b1, b2, b3, b4, b5, b6, s1, s2, s3, s4, s5, g1, g2, g3, g4, g5, g6, t1', t4']; (first | refine hQ _ _ _ _ ?_ | refine hQ _ _ _ _ (by kernel_rfl) ?_ | refine hP _ _ (fun _ => ?_) | refine hP _ _ (by kernel_rfl) (fun _ => ?_)); clear hQ hP Q) | refine GW_block ?_ | refine GW_ret ?_ | refine GW_skip ?_ | refine GW_exit ?_ | refine GW_goto ?_ | refine GW_label ?_ | simp only [blockG_exit] | (refine GW_cond (by simp; rfl) ?_ ?_ <;> (intro hb; first | (exfalso; exact absurd hb (by decide)) | skip)))
    refine ⟨.inr trivial, ?_⟩
    simp [Tryd.results5]
set_option maxHeartbeats 4000000 in
set_option maxRecDepth 8000 in
theorem DriftParts_ret (v w n d : Int) (hv : i64 v) (hw : i64 w) (hn : i64 n) (hd : i64 d) : Ret Tryd.prog G0 7 #[.int .i64 v, .int .i64 w, .int .i64 n, .int .i64 d] (.bool true) := by
  refine ret_of G0F Tryd.func7 rfl Tryd.call7 (by simp) (by simp) (by simp [Tryd.ntmps7]) ?_
  intro C hC hC0 hY
  obtain ⟨lo, hlo⟩ : ∃ m, (if w < v then w else v) = m := ⟨_, rfl⟩
  obtain ⟨hi, hhi⟩ : ∃ m, (if v < w then w else v) = m := ⟨_, rfl⟩
  by_cases q0 : lo < -1073741824
  ·
    repeat' (first | refine GW_seq ?_ | simp only [List.length_cons, List.length_nil, Nat.reduceAdd, Nat.reduceMul, wN] | ((first | refine GW_region' [] (by kernel_rfl) ?_ | refine GW_draw' [] follows (by kernel_rfl) (by kernel_rfl) ?_); intro Q hQ hP; simp [hC, hY, hlo, hhi, q0]; (first | refine hQ _ _ _ _ ?_ | refine hQ _ _ _ _ (by kernel_rfl) ?_ | refine hP _ _ (fun _ => ?_) | refine hP _ _ (by kernel_rfl) (fun _ => ?_)); clear hQ hP Q) | refine GW_block ?_ | refine GW_ret ?_ | refine GW_skip ?_ | refine GW_exit ?_ | refine GW_goto ?_ | refine GW_label ?_ | simp only [blockG_exit] | (refine GW_cond (by simp; rfl) ?_ ?_ <;> (intro hb; first | (exfalso; exact absurd hb (by decide)) | skip)))
    refine ⟨.inr trivial, ?_⟩
    simp [Tryd.results7]
  by_cases q1 : 1073741824 < hi
  ·
    repeat' (first | refine GW_seq ?_ | simp only [List.length_cons, List.length_nil, Nat.reduceAdd, Nat.reduceMul, wN] | ((first | refine GW_region' [] (by kernel_rfl) ?_ | refine GW_draw' [] follows (by kernel_rfl) (by kernel_rfl) ?_); intro Q hQ hP; simp [hC, hY, hlo, hhi, q0, q1]; (first | refine hQ _ _ _ _ ?_ | refine hQ _ _ _ _ (by kernel_rfl) ?_ | refine hP _ _ (fun _ => ?_) | refine hP _ _ (by kernel_rfl) (fun _ => ?_)); clear hQ hP Q) | refine GW_block ?_ | refine GW_ret ?_ | refine GW_skip ?_ | refine GW_exit ?_ | refine GW_goto ?_ | refine GW_label ?_ | simp only [blockG_exit] | (refine GW_cond (by simp; rfl) ?_ ?_ <;> (intro hb; first | (exfalso; exact absurd hb (by decide)) | skip)))
    refine ⟨.inr trivial, ?_⟩
    simp [Tryd.results7]
  by_cases q2 : n < 0
  ·
    repeat' (first | refine GW_seq ?_ | simp only [List.length_cons, List.length_nil, Nat.reduceAdd, Nat.reduceMul, wN] | ((first | refine GW_region' [] (by kernel_rfl) ?_ | refine GW_draw' [] follows (by kernel_rfl) (by kernel_rfl) ?_); intro Q hQ hP; simp [hC, hY, hlo, hhi, q0, q1, q2]; (first | refine hQ _ _ _ _ ?_ | refine hQ _ _ _ _ (by kernel_rfl) ?_ | refine hP _ _ (fun _ => ?_) | refine hP _ _ (by kernel_rfl) (fun _ => ?_)); clear hQ hP Q) | refine GW_block ?_ | refine GW_ret ?_ | refine GW_skip ?_ | refine GW_exit ?_ | refine GW_goto ?_ | refine GW_label ?_ | simp only [blockG_exit] | (refine GW_cond (by simp; rfl) ?_ ?_ <;> (intro hb; first | (exfalso; exact absurd hb (by decide)) | skip)))
    refine ⟨.inr trivial, ?_⟩
    simp [Tryd.results7]
  by_cases q3 : 1048576 < n
  ·
    repeat' (first | refine GW_seq ?_ | simp only [List.length_cons, List.length_nil, Nat.reduceAdd, Nat.reduceMul, wN] | ((first | refine GW_region' [] (by kernel_rfl) ?_ | refine GW_draw' [] follows (by kernel_rfl) (by kernel_rfl) ?_); intro Q hQ hP; simp [hC, hY, hlo, hhi, q0, q1, q2, q3]; (first | refine hQ _ _ _ _ ?_ | refine hQ _ _ _ _ (by kernel_rfl) ?_ | refine hP _ _ (fun _ => ?_) | refine hP _ _ (by kernel_rfl) (fun _ => ?_)); clear hQ hP Q) | refine GW_block ?_ | refine GW_ret ?_ | refine GW_skip ?_ | refine GW_exit ?_ | refine GW_goto ?_ | refine GW_label ?_ | simp only [blockG_exit] | (refine GW_cond (by simp; rfl) ?_ ?_ <;> (intro hb; first | (exfalso; exact absurd hb (by decide)) | skip)))
    refine ⟨.inr trivial, ?_⟩
    simp [Tryd.results7]
  by_cases q4 : d < 1
  ·
    repeat' (first | refine GW_seq ?_ | simp only [List.length_cons, List.length_nil, Nat.reduceAdd, Nat.reduceMul, wN] | ((first | refine GW_region' [] (by kernel_rfl) ?_ | refine GW_draw' [] follows (by kernel_rfl) (by kernel_rfl) ?_); intro Q hQ hP; simp [hC, hY, hlo, hhi, q0, q1, q2, q3, q4]; (first | refine hQ _ _ _ _ ?_ | refine hQ _ _ _ _ (by kernel_rfl) ?_ | refine hP _ _ (fun _ => ?_) | refine hP _ _ (by kernel_rfl) (fun _ => ?_)); clear hQ hP Q) | refine GW_block ?_ | refine GW_ret ?_ | refine GW_skip ?_ | refine GW_exit ?_ | refine GW_goto ?_ | refine GW_label ?_ | simp only [blockG_exit] | (refine GW_cond (by simp; rfl) ?_ ?_ <;> (intro hb; first | (exfalso; exact absurd hb (by decide)) | skip)))
    refine ⟨.inr trivial, ?_⟩
    simp [Tryd.results7]
  by_cases q5 : 1048576 < d
  ·
    repeat' (first | refine GW_seq ?_ | simp only [List.length_cons, List.length_nil, Nat.reduceAdd, Nat.reduceMul, wN] | ((first | refine GW_region' [] (by kernel_rfl) ?_ | refine GW_draw' [] follows (by kernel_rfl) (by kernel_rfl) ?_); intro Q hQ hP; simp [hC, hY, hlo, hhi, q0, q1, q2, q3, q4, q5]; (first | refine hQ _ _ _ _ ?_ | refine hQ _ _ _ _ (by kernel_rfl) ?_ | refine hP _ _ (fun _ => ?_) | refine hP _ _ (by kernel_rfl) (fun _ => ?_)); clear hQ hP Q) | refine GW_block ?_ | refine GW_ret ?_ | refine GW_skip ?_ | refine GW_exit ?_ | refine GW_goto ?_ | refine GW_label ?_ | simp only [blockG_exit] | (refine GW_cond (by simp; rfl) ?_ ?_ <;> (intro hb; first | (exfalso; exact absurd hb (by decide)) | skip)))
    refine ⟨.inr trivial, ?_⟩
    simp [Tryd.results7]
  have hvr : -1073741824 ≤ v ∧ v ≤ 1073741824 := by
    constructor
    · by_cases c : w < v
      · rw [if_pos c] at hlo; omega
      · rw [if_neg c] at hlo; omega
    · by_cases c : v < w
      · rw [if_pos c] at hhi; omega
      · rw [if_neg c] at hhi; omega
  have hwr : -1073741824 ≤ w ∧ w ≤ 1073741824 := by
    constructor
    · by_cases c : w < v
      · rw [if_pos c] at hlo; omega
      · rw [if_neg c] at hlo; omega
    · by_cases c : v < w
      · rw [if_pos c] at hhi; omega
      · rw [if_neg c] at hhi; omega
  have p0 : partB n d = true := by unfold partB; exact decide_eq_true (by omega)
  have p1 : partB (2 * n) (2 * d) = true := by unfold partB; exact decide_eq_true (by omega)
  have p2 : partB d d = true := by unfold partB; exact decide_eq_true (by omega)
  have d0 : 0 < d := by omega
  obtain ⟨e0, x0⟩ := d1_at (v := v) p0 hvr.1 hvr.2
  obtain ⟨e1, x1⟩ := d1_at (v := v) p1 hvr.1 hvr.2
  obtain ⟨e2, x2⟩ := d1_at (v := w) p0 hwr.1 hwr.2
  obtain ⟨e3, x3⟩ := d1_at (v := v) p2 hvr.1 hvr.2
  rw [show v * (2 * n) = 2 * (v * n) by rw [Int.mul_left_comm], nearQ_dbl d0] at x1
  rw [nearQ_self d0] at x3
  have hle : v ≤ w → nearQ (v * n) d ≤ nearQ (w * n) d := fun h => nearQ_le d0 (Int.mul_le_mul_of_nonneg_right h (by omega))
  have hge : w ≤ v → nearQ (w * n) d ≤ nearQ (v * n) d := fun h => nearQ_le d0 (Int.mul_le_mul_of_nonneg_right h (by omega))
  obtain ⟨x, hx⟩ : ∃ x, nearQ (v * n) d = x := ⟨_, rfl⟩
  obtain ⟨z, hz⟩ : ∃ z, nearQ (w * n) d = z := ⟨_, rfl⟩
  rw [hx] at x0 x1 hle hge
  rw [hz] at x2 hle hge
  have b1 : Int.bmod (2 * n) 18446744073709551616 = 2 * n := bm (by omega) (by omega)
  have b2 : Int.bmod (2 * d) 18446744073709551616 = 2 * d := bm (by omega) (by omega)
  have i1 : i64 (2 * n) := ⟨by omega, by omega⟩
  have i2 : i64 (2 * d) := ⟨by omega, by omega⟩
  have v1 : ¬ v < -1073741824 := by omega
  have v2 : ¬ 1073741824 < v := by omega
  have v3 : ¬ w < -1073741824 := by omega
  have v4 : ¬ 1073741824 < w := by omega
  by_cases c1 : v < w
  · have c2 : ¬ w < v := by omega
    have c3 : x ≤ z := hle (by omega)
    repeat' (first | refine GW_seq ?_ | simp only [List.length_cons, List.length_nil, Nat.reduceAdd, Nat.reduceMul, wN] | ((first | refine GW_region' [] (by kernel_rfl) ?_ | refine GW_draw' [] follows (by kernel_rfl) (by kernel_rfl) ?_); intro Q hQ hP; simp [hC, hY, hn, hv, hw, hd, hlo, hhi, q0, q1, q2, q3, q4, q5, e0, e1, e2, e3, x0, x1, x2, x3, b1, b2, i1, i2, v1, v2, v3, v4, c1, c2, c3]; (first | refine hQ _ _ _ _ ?_ | refine hQ _ _ _ _ (by kernel_rfl) ?_ | refine hP _ _ (fun _ => ?_) | refine hP _ _ (by kernel_rfl) (fun _ => ?_)); clear hQ hP Q) | refine GW_block ?_ | refine GW_ret ?_ | refine GW_skip ?_ | refine GW_exit ?_ | refine GW_goto ?_ | refine GW_label ?_ | simp only [blockG_exit] | (refine GW_cond (by simp; rfl) ?_ ?_ <;> (intro hb; first | (exfalso; exact absurd hb (by decide)) | skip)))
    refine ⟨.inr trivial, ?_⟩
    simp [Tryd.results7]
  by_cases c2 : w < v
  · have c3 : z ≤ x := hge (by omega)
    repeat' (first | refine GW_seq ?_ | simp only [List.length_cons, List.length_nil, Nat.reduceAdd, Nat.reduceMul, wN] | ((first | refine GW_region' [] (by kernel_rfl) ?_ | refine GW_draw' [] follows (by kernel_rfl) (by kernel_rfl) ?_); intro Q hQ hP; simp [hC, hY, hn, hv, hw, hd, hlo, hhi, q0, q1, q2, q3, q4, q5, e0, e1, e2, e3, x0, x1, x2, x3, b1, b2, i1, i2, v1, v2, v3, v4, c1, c2, c3]; (first | refine hQ _ _ _ _ ?_ | refine hQ _ _ _ _ (by kernel_rfl) ?_ | refine hP _ _ (fun _ => ?_) | refine hP _ _ (by kernel_rfl) (fun _ => ?_)); clear hQ hP Q) | refine GW_block ?_ | refine GW_ret ?_ | refine GW_skip ?_ | refine GW_exit ?_ | refine GW_goto ?_ | refine GW_label ?_ | simp only [blockG_exit] | (refine GW_cond (by simp; rfl) ?_ ?_ <;> (intro hb; first | (exfalso; exact absurd hb (by decide)) | skip)))
    refine ⟨.inr trivial, ?_⟩
    simp [Tryd.results7]
  have c3 : x ≤ z := hle (by omega)
  have c4 : z ≤ x := hge (by omega)
  repeat' (first | refine GW_seq ?_ | simp only [List.length_cons, List.length_nil, Nat.reduceAdd, Nat.reduceMul, wN] | ((first | refine GW_region' [] (by kernel_rfl) ?_ | refine GW_draw' [] follows (by kernel_rfl) (by kernel_rfl) ?_); intro Q hQ hP; simp [hC, hY, hn, hv, hw, hd, hlo, hhi, q0, q1, q2, q3, q4, q5, e0, e1, e2, e3, x0, x1, x2, x3, b1, b2, i1, i2, v1, v2, v3, v4, c1, c2, c3, c4]; (first | refine hQ _ _ _ _ ?_ | refine hQ _ _ _ _ (by kernel_rfl) ?_ | refine hP _ _ (fun _ => ?_) | refine hP _ _ (by kernel_rfl) (fun _ => ?_)); clear hQ hP Q) | refine GW_block ?_ | refine GW_ret ?_ | refine GW_skip ?_ | refine GW_exit ?_ | refine GW_goto ?_ | refine GW_label ?_ | simp only [blockG_exit] | (refine GW_cond (by simp; rfl) ?_ ?_ <;> (intro hb; first | (exfalso; exact absurd hb (by decide)) | skip)))
  refine ⟨.inr trivial, ?_⟩
  simp [Tryd.results7]
end Go.Gy
namespace Go.Gy
set_option linter.unusedSimpArgs false
set_option linter.unusedVariables false
set_option maxRecDepth 100000
open Go Go.RowKit Go.Proofs Go.ChangeShapes Go.WideShapes Go.ChangeAt

section
variable {H : Type} {enc : TypeId × Value → H} {P : Program}
theorem post_of_below {f : Func} {s : ChangeSpec} {apart fresh handsOn again : Bool} {W W' : World} {args : Array Value} {v : Value} {ds gs : List (DataW H)} {before pa pv : List MemPlace}
    (hW : DataW.Whole enc P f.params.toList s.vars apart W args.toList ds gs before)
    (hres : ∀ (b : Nat) (sp : Nat → Bool) (hd : Bool), DataW.TrodAll enc P W' b sp hd f.resultTypes.toList (v.resultList f.resultTypes.size) (s.fn H (ds ++ gs)).results [])
    (hargs : ∀ sp : Nat → Bool, (∀ p ∈ before, sp p.block = true) → DataW.TrodAll enc P W' 0 sp true f.params.toList args.toList (s.fn H (ds ++ gs)).args pa)
    (hvars : ∀ sp : Nat → Bool, (∀ p ∈ before, sp p.block = true) → DataW.TrodVars enc P W' sp s.vars (s.fn H (ds ++ gs)).vars pv)
    (hps : before = pa ++ pv) (hb : Below W.heap.size W W')
    (hok : ∀ (j : Nat) (t : TypeId) (r : Value), f.resultTypes[j]? = some t → (v.resultList f.resultTypes.size)[j]? = some r → Value.okWide P W' .any 0 t r) :
    s.post enc P f apart fresh handsOn again W args v W' := by
  have hlt : ∀ p ∈ before, p.block < W.heap.size := fun p hp => hW.lt p hp
  have hold : ∀ p ∈ before, (fun b => decide (b < W.heap.size)) p.block = true := fun p hp => by simpa using hlt p hp
  refine ⟨ds, gs, before, [], pa, pv, hW, hres _ _ _, hargs _ hold, hvars _ hold, World.keptBut_mono (fun p hp => ⟨hp, ?_⟩) (hb.frame (· ∈ before)), fun _ => ?_⟩
  · rw [hps, List.mem_append] at hp
    exact Or.inr hp
  · obtain ⟨_, _, _, _, _, hz, hn⟩ := hW
    refine ⟨hok, _, _, ([] ++ pa) ++ pv, ⟨[] ++ pa, pv, trodAll_append (hargs _ (fun _ _ => rfl)) (hres _ _ _), hvars _ (fun _ _ => rfl), rfl, ?_, ?_⟩, ?_⟩
    · intro b off hp
      have hin : MemPlace.cell b off ∈ before := by rw [hps]; simpa using hp
      rw [hb.frozen (hlt _ hin)]
      exact hz b off hin
    · intro ha
      have := hn ha
      rw [hps] at this
      simpa using this
    · intro p hp _
      rw [hps]
      simpa using hp
/-- An array of integers, opened. -/
theorem open_ia {w : World} {base b0 : Nat} {spare : Nat → Bool} {held : Bool} {r : Reach} {t e : TypeId} {n : Nat} {q : IntKind} {v : Value} {d : DataW H} {p : List MemPlace} (ht : P.underlying t = some (.array n e)) (he : P.underlying e = some (.int q)) (hce : P.cellsOf e = 1) (hct : P.cellsOf t = n)
    (hv : Value.okWide P w r b0 t v) (h : DataW.Trod enc P w base spare held t v d p) :
    ∃ zs : List Int, zs.length = n ∧ v = .agg (zs.map (.int q)).toArray ∧ d = .agg (zs.map fun z => .lit (.int q z)) ∧ p = [] ∧ ∀ z ∈ zs, (Lit.int q z).wf = true := by
  simp only [Value.okWide, ht] at hv
  obtain ⟨cs, rfl, hsz, _⟩ := hv
  obtain ⟨fuel, hf⟩ := h
  cases fuel with
  | zero => simp [DataW.trod] at hf
  | succ fuel =>
    simp only [DataW.trod, ht, hce, hct, Nat.mul_one, Value.cells] at hf
    split at hf
    · rename_i hl
      obtain ⟨xs, hm, hx⟩ := Option.map_eq_some_iff.1 hf
      have key : ∀ (l : List Nat) (xs : List (DataW H × List MemPlace)), l.mapM (fun i => DataW.trod enc P w base spare held fuel e ((cs.toList.drop i).take 1)) = some xs →
          ∃ zs : List Int, zs.length = l.length ∧ (∀ j i, l[j]? = some i → ((cs.toList.drop i).take 1) = [Value.int q (zs.getD j 0)]) ∧ xs = zs.map (fun z => (.lit (.int q z), [])) ∧ ∀ z ∈ zs, (Lit.int q z).wf = true := by
        intro l
        induction l with
        | nil => intro xs h; simp at h; subst h; exact ⟨[], rfl, by simp, rfl, by simp⟩
        | cons i l ih =>
          intro xs h
          rw [List.mapM_cons] at h
          simp only [bind, Option.bind_eq_some_iff, pure, Option.some.injEq] at h
          obtain ⟨y, hy, ys, hys, rfl⟩ := h
          obtain ⟨zs, h1, h2, rfl, h4⟩ := ih ys hys
          obtain ⟨z, hz, rfl, hw⟩ := DataW.trod_int he hy
          refine ⟨z :: zs, by simp [h1], fun j i' hj => ?_, rfl, fun x hx => ?_⟩
          · cases j with
            | zero => simp at hj; subst hj; simpa using hz
            | succ j => simp at hj; simpa using h2 j i' hj
          · rcases List.mem_cons.1 hx with rfl | hx
            · exact hw
            · exact h4 x hx
      obtain ⟨zs, h1, h2, rfl, h4⟩ := key _ _ hm
      have hzn : zs.length = n := by simpa using h1
      simp only [Prod.mk.injEq] at hx
      refine ⟨zs, hzn, ?_, by rw [← hx.1]; simp [Function.comp_def], by rw [← hx.2]; simp [List.flatMap_eq_nil_iff], h4⟩
      congr 1
      apply Array.ext'
      simp only
      apply List.ext_getElem?
      intro i
      by_cases hi : i < n
      · have h3 := h2 i i (by simp [hi])
        have h5 : cs.toList[i]? = some (.int q (zs.getD i 0)) := by
          have := congrArg (·[0]?) h3
          simpa [List.getElem?_take, List.getElem?_drop] using this
        have e1 : zs[i]? = some (zs.getD i 0) := by simp [List.getD, List.getElem?_eq_getElem (show i < zs.length by omega)]
        rw [h5, List.getElem?_map, e1]
        rfl
      · rw [List.getElem?_eq_none (by omega), List.getElem?_eq_none (by simp; omega)]
    · cases hf
end

/-! A wide number, an int, a point. -/
theorem cells_u64 : Tryd.prog.cellsOf 46 = 1 := by kernel_rfl
theorem cells_wide : Tryd.prog.cellsOf 48 = 4 := by kernel_rfl
theorem mm_i64 : IntKind.i64.min = -9223372036854775808 ∧ IntKind.i64.max = 9223372036854775807 := by decide
theorem wf_i64 {z : Int} (h : (Lit.int .i64 z).wf = true) : i64 z := by
  simp only [Lit.wf, Bool.and_eq_true, decide_eq_true_eq, mm_i64.1, mm_i64.2] at h; unfold i64; omega
section
variable {H : Type} {enc : TypeId × Value → H} {w : World}
end

/-! What the rows' lists give. -/
theorem own : ownKnob Tryd.prog.godebug = none := by kernel_rfl
theorem gLeast : Tryd.prog.globalNamed "gyre/quot.least" = some 1 := by kernel_rfl
theorem gLeastType : (Tryd.prog.globals[1]?).map (·.type) = some 48 := by kernel_rfl
theorem gLeastRow : ((begin Tryd.prog (fun _ _ => 0) default).world.heap[1]?).bind Obj.row? = some (#[.int .u64 0, .int .u64 0, .int .u64 0, .int .u64 0], 48) := by kernel_rfl
theorem heap_of_var {P : Program} {W : World} {name : String} {g : Nat} {cs : Array Value} {z : Array Value} {T : TypeId} (hg : P.globalNamed name = some g) (hlt : g < P.globals.size) (hrow : ((begin P (fun _ _ => 0) default).world.heap[g]?).bind Obj.row? = some (z, T))
    (hS : W.ShapedOpen P) (hv : W.var? P name = some cs) : W.heap[g]? = some (.cells cs T (0, 0)) := by
  obtain ⟨c, h1, _⟩ := hS.1 g z T hlt hrow
  unfold World.var? at hv
  rw [hg] at hv
  simp only [Option.bind_some, h1, Option.some.injEq] at hv
  rw [h1, hv]
theorem gok_least {W : World} (hS : W.ShapedOpen Tryd.prog) (hv : W.var? Tryd.prog "gyre/quot.least" = some lsB.c) : GOK G0 W := fun k b hk => by
  have h := G0_mem hk
  simp [G0L] at h
  obtain ⟨rfl, rfl⟩ := h
  exact heap_of_var gLeast (of_decide_eq_true (by kernel_rfl)) gLeastRow hS hv
theorem least_of {W : World} {rest : List (String × DataW Unit)} (h : laidMet Tryd.prog (("gyre/quot.least", Proofs.YteoefgffimgcmaaDoor.Rows.laid_gyre_quot_least) :: rest) W) : W.var? Tryd.prog "gyre/quot.least" = some lsB.c :=
  Lib.tabIs_of_head (zs := [0, 0, 0, 9223372036854775808]) gLeast gLeastType Tryd.underlying48 Tryd.underlying46 cells_u64 cells_wide h
end Go.Gy
