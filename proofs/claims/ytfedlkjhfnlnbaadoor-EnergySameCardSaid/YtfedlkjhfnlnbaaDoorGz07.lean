/-
  Lemmas of this claim, in their order (GyES, GyET, GyEA, GyEB, GyEC, GyEG, GyLI, GyEU, GyEV, GyEW, GyEX, GyCG, GyFA, GyFD, GyFG, GyFC, GyFE, GyFB, GyFF).
  Conditions: those of each theorem.
-/
import Derived.Test.YtfedlkjhfnlnbaaDoorGz06
namespace Go.Gy
set_option linter.unusedSimpArgs false
set_option linter.unusedVariables false
open Go Go.RowKit Go.Proofs
theorem eless_fun (t a : Int) : Fun Tryd.prog G0 35 #[wd a, .pointer (some ⟨100, 0, none⟩)] (hpL G0 [(100, wb t)]) (keys [(100, wb t)]) (.ret (wd (t - a)) []) := by
  refine fun_ofL (B := 200) G0F Tryd.func35 rfl Tryd.call35 ⟨by simp, by simp [keys], by simp [wb, ids_lit, idsF, ids0]⟩ ?_ (flatV_ids (by simp)) (by simp) (by simp) (by simp [Tryd.ntmps35]) (by omega) ?_
  · intro x hx
    simp only [List.mem_toArray, List.mem_cons, List.not_mem_nil, or_false] at hx
    rcases hx with rfl | rfl
    · exact flatV_ids (by simp)
    · simp [idsV, idsA, idsF, ids0, keys]
  intro C hC hC0 hY
  repeat' (first | apply gwS | simp only [wN, wM, Nat.reduceAdd, Nat.reduceMul] | ((first | refine gwR [] ?_ | refine gwD [] ?_); intro Q hQ hP; simp [hC, hY, wb]; (first | refine hQ _ _ _ _ (by kernel_rfl) ?_ | refine hP _ _ (by kernel_rfl) fun _ => ?_); clear hQ hP Q) | apply gwB | apply gwT | apply gwK | apply gwE | apply gwG | apply gwL | simp only [blockG_exit] | (refine gwC ?_ ?_ <;> (intro hb; first | (cases hb; done) | skip)))
  refine ⟨.inr rfl, by simp [Tryd.results35], keep_of G0F (by simp [wb]) (by (intro k hk; first | rfl | (simp (disch := omega) only [addB, List.mem_cons, List.not_mem_nil, or_false, upd_other, hpL_cons, hpL_nil, if_neg, updL] <;> done)))⟩
theorem epairsR_rr {nk nk' ks off n cap off2 n2 cap2 : Nat} {g bx tp nr md st : Int} {ρ : Nat → Nat} (h100 : ρ 100 = 100) (hk : ρ ks = ks) (h0 : ρ nk = nk') (h1 : ρ (nk + 1) = nk' + 1) :
    RR ρ (EPairsR nk ks off n cap off2 n2 cap2 g bx tp nr md st) = EPairsR nk' ks off n cap off2 n2 cap2 g bx tp nr md st := by
  funext v ns
  apply propext
  constructor
  · rintro ⟨v0, ns0, ⟨rfl, rfl⟩, rfl, rfl⟩
    exact ⟨by simp [ren, renA, renF, ren0, h0, h1], by simp [rnL, cfB, stB', Blk.rn, renF, ren0, h100, hk, h0, h1]⟩
  · rintro ⟨rfl, rfl⟩
    exact ⟨_, _, ⟨rfl, rfl⟩, by simp [ren, renA, renF, ren0, h0, h1], by simp [rnL, cfB, stB', Blk.rn, renF, ren0, h100, hk, h0, h1]⟩
theorem epairs_at (nk : Nat) (hnk : 200 ≤ nk) (L : List (Nat × Blk)) (ks : Nat) (bm bs : Blk) (hT : LTwo G0 L ks bm bs) (off n cap off2 n2 cap2 : Nat) (g bx tp nr md st : Int) :
    FunS Tryd.prog G0 53 #[cfV (.slice (some ⟨100, off, none⟩) n cap) g bx tp nr md, .agg #[.int .i64 st, .slice (some ⟨ks, off2, none⟩) n2 cap2]] (hpL G0 L) (keys L) (EPairsR nk ks off n cap off2 n2 cap2 g bx tp nr md st) := by
  have e2 : ∀ j, j < 2 → up2 nk (1000 + j) = nk + j := fun j hj => by unfold up2; rw [if_pos (by omega), if_pos (by omega)]; omega
  have hlow : ∀ k, k < 1000 → up2 nk k = k := fun k hk => by unfold up2; rw [if_neg (by omega)]
  have hk2 := hT.k2
  have hid : ∀ k ∈ keys L, up2 nk k = k := fun k hk => by
    obtain ⟨p, hp, rfl⟩ := mem_keys.1 hk
    have := hT.ok.big p hp
    exact hlow _ (by omega)
  have hkk : ∀ v ns, EPairsR 1000 ks off n cap off2 n2 cap2 g bx tp nr md st v ns → ∀ k ∈ keys ns, ∃ j, j < 2 ∧ k = 1000 + j := by
    intro v ns hV k hk
    have := epairsR_key hV k hk
    exact ⟨k - 1000, by omega, by omega⟩
  refine (epairs_L L ks bm bs hT off n cap off2 n2 cap2 g bx tp nr md st).mvL (hp' := hpL G0 L) (rs' := keys L) G0F hT.ok (up2 nk) (fun k hk => hlow k (by omega)) ?_ ?_ (epairsR_rr (hlow _ (by omega)) (hlow _ (by omega)) (e2 0 (by omega)) (e2 1 (by omega))) hT.ok.low ?_ ?_ (fun v ns hV k hk => ?_) (fun v ns hV k hk l hl e => ?_)
  · simp [cfV, ren, renA, renF, ren0, hlow 100 (by omega), hlow ks (by omega)]
  · rw [List.map_congr_left hid]; simp
  · intro p hp
    have hb := hT.ok.big p hp
    rw [hlow p.1 (by omega), Blk.fx_rn (hT.fx p hp)]
    exact ⟨hb.1, hT.mem p hp⟩
  · intro k hk l hl e
    rw [hid k hk, hid l hl] at e
    exact e
  · obtain ⟨j, hj, rfl⟩ := hkk v ns hV k hk
    rw [e2 j hj]
    refine ⟨by omega, fun h => ?_⟩
    obtain ⟨p, hp, e⟩ := mem_keys.1 h
    have := hT.ok.big p hp
    omega
  · obtain ⟨j, hj, rfl⟩ := hkk v ns hV k hk
    obtain ⟨i, hi, rfl⟩ := hkk v ns hV l hl
    rw [e2 j hj, e2 i hi] at e
    omega
def epIx : Nat → List (Nat × Nat)
  | 2 => [(1, 0)]
  | 3 => [(1, 0), (2, 0), (2, 1)]
  | 4 => [(1, 0), (2, 0), (2, 1), (3, 0), (3, 1), (3, 2)]
  | _ => []
theorem epXs_map (fm fs : Nat → Int) {n : Nat} (hn : 1 ≤ n ∧ n ≤ 4) : epXs fm fs n = (epIx n).map fun p => epV fm fs p.1 p.2 := by
  have : n = 1 ∨ n = 2 ∨ n = 3 ∨ n = 4 := by omega
  rcases this with rfl | rfl | rfl | rfl <;> rfl
theorem epIx_lt {n : Nat} {p : Nat × Nat} (h : p ∈ epIx n) : p.2 < p.1 ∧ p.1 < n := by
  unfold epIx at h
  split at h <;> simp at h
  · subst h; simp
  · rcases h with rfl | rfl | rfl <;> simp
  · rcases h with rfl | rfl | rfl | rfl | rfl | rfl <;> simp
def pS (F : Nat → Nat → Int) : List (Nat × Nat) → Int
  | [] => 0
  | p :: l => F p.1 p.2 + pS F l
theorem pS_app (F : Nat → Nat → Int) : ∀ l m, pS F (l ++ m) = pS F l + pS F m
  | [], m => by simp [pS]
  | p :: l, m => by
    simp only [List.cons_append, pS, pS_app F l m]
    omega
theorem pS_take (F : Nat → Nat → Int) {l : List (Nat × Nat)} {j : Nat} (hj : j < l.length) : pS F (l.take (j + 1)) = pS F (l.take j) + F l[j].1 l[j].2 := by
  rw [show l.take (j + 1) = l.take j ++ [l[j]] by simp, pS_app]
  simp [pS]
theorem sum2_ep (F : Nat → Nat → Int) {n : Nat} (hn : 1 ≤ n ∧ n ≤ 4) : sum2 F n = pS F (epIx n) := by
  have : n = 1 ∨ n = 2 ∨ n = 3 ∨ n = 4 := by omega
  rcases this with rfl | rfl | rfl | rfl <;> simp only [sum2, sumN, pS, epIx] <;> omega
theorem epairs_it (L : List (Nat × Blk)) (ks : Nat) (bm bs : Blk) (hT : LTwo G0 L ks bm bs) (off n cap off2 cap2 : Nat) (fm fs : Nat → Int) (hm : MB bm off n fm) (hSb : SB bs off2 n fs) (hcap : n ≤ cap2) (hn : 1 ≤ n ∧ n ≤ 4) (g bx tp nr md st : Int) :
    IterK Tryd.prog G0 70 #[.pointer (some ⟨208, 0, none⟩), .pointer (some ⟨200, 0, none⟩)] (hpL G0 (enM L ks off n cap off2 n cap2 g bx tp nr md st)) (keys (enM L ks off n cap off2 n cap2 g bx tp nr md st)) ((epIx n).map fun p => epV fm fs p.1 p.2) := by
  rw [← epXs_map fm fs hn]
  have : n = 1 ∨ n = 2 ∨ n = 3 ∨ n = 4 := by omega
  rcases this with rfl | rfl | rfl | rfl
  · exact epairs_it1 L ks bm bs hT off cap off2 cap2 fm fs hm hSb hcap g bx tp nr md st
  · exact epairs_it2 L ks bm bs hT off cap off2 cap2 fm fs hm hSb hcap g bx tp nr md st
  · exact epairs_it3 L ks bm bs hT off cap off2 cap2 fm fs hm hSb hcap g bx tp nr md st
  · exact epairs_it4 L ks bm bs hT off cap off2 cap2 fm fs hm hSb hcap g bx tp nr md st
def potLo (g : Int) (fm fs : Nat → Int) (n : Nat) : Int := sum2 (fun i k => enLo g (fm i) (fm k) (esqF fs i k)) n
def potHi (g : Int) (fm fs : Nat → Int) (n : Nat) : Int := sum2 (fun i k => enHi g (fm i) (fm k) (esqF fs i k)) n
def potZ (fs : Nat → Int) (n : Nat) : Int := sum2 (fun i k => if esqF fs i k = 0 then 1 else 0) n
theorem esq_in {st : Int} {fs : Nat → Int} {n : Nat} (hr : rightB st fs n = true) {i k : Nat} (hi : i < n) (hk : k < n) : 0 ≤ esqF fs i k ∧ esqF fs i k ≤ 13194139533312 := by
  obtain ⟨⟨⟨_, a0, a1⟩, ⟨_, b0, b1⟩, ⟨_, c0, c1⟩⟩, _⟩ := right_b hr hi
  obtain ⟨⟨⟨_, d0, d1⟩, ⟨_, e0, e1⟩, ⟨_, f0, f1⟩⟩, _⟩ := right_b hr hk
  have s0 := sq_in (a := fs (6 * i) - fs (6 * k)) (m := 2097152) ⟨by omega, by omega, by omega⟩
  have s1 := sq_in (a := fs (6 * i + 1) - fs (6 * k + 1)) (m := 2097152) ⟨by omega, by omega, by omega⟩
  have s2 := sq_in (a := fs (6 * i + 2) - fs (6 * k + 2)) (m := 2097152) ⟨by omega, by omega, by omega⟩
  unfold esqF f2V
  split <;> omega
theorem heapK_slA {f : FuncId} {c : Array Value} {T : TypeId} {n nk b : Nat} {x : Int} {v : Value} {hp : Hp} {K : Eff → Prop} (h : Fun Tryd.prog G0 f #[.int .i64 x, .slice (some ⟨100, 0, none⟩) n n] (hpL G0 [(100, ⟨c, .ty T⟩)]) [100] (.ret v [])) (hc : ∀ x ∈ c, flatF x = true) (hv : flatV v = true) (hb : 100 ≤ b)
    (h1 : hp b = some ⟨c, .ty T⟩) (hK : K ((Res.ret v []).eff [b])) : heapK Tryd.prog G0 f #[.int .i64 x, .slice (some ⟨b, 0, none⟩) n n] hp nk K :=
  heapK_mv h G0F (B := 200) ⟨by simp, by simp [keys], fun p hp1 => by simp at hp1; subst hp1; exact fun x hx => flatF_ids (hc x hx)⟩ (fun k => if k = 100 then b else k) (fun k hk => if_neg (by omega)) (by simp [ren, renA, renF, ren0]) hv
    (by simp [hb, h1, Blk.rn]; exact (map_eq_self (fun x hx => flatF_ren (hc x hx))).symm) (by simp [keys]) (by simp [keys]) hK
theorem ewithin1 (most n0 : Int) : Fun Tryd.prog G0 22 #[.int .i64 most, .slice (some ⟨100, 0, none⟩) 1 1] (hpL G0 [(100, ⟨#[.int .i64 n0], .ty 3⟩)]) (keys [(100, (⟨#[.int .i64 n0], .ty 3⟩ : Blk))]) (.ret (.bool (decide ((1 ≤ n0 ∧ n0 ≤ most)))) []) := by
  refine fun_ofL (B := 200) G0F Tryd.func22 rfl Tryd.call22 ⟨by simp, by simp [keys], by simp [ids_lit, idsF, ids0]⟩ ?_ (by simp) (by simp) (by simp) (by simp [Tryd.ntmps22]) (by omega) ?_
  · simp [idsV, idsA, idsF, ids0, keys]
  intro C hC hC0 hY
  by_cases a00 : 1 ≤ n0
  rotate_left
  · have a00n : n0 < 1 := by omega
    have hd : decide ((1 ≤ n0 ∧ n0 ≤ most)) = false := decide_eq_false (by omega)
    rw [hd]
    repeat' (first | apply gwS | refine GWL_start ?_ | refine GWL_step ?_ | simp only [wN, wM, Nat.reduceAdd, Nat.reduceMul] | ((first | refine gwR [] ?_ | refine gwD [] ?_); intro Q hQ hP; simp [hC, hY, a00, a00n]; (first | refine hQ _ _ _ _ (by kernel_rfl) ?_ | refine hP _ _ (by kernel_rfl) fun _ => ?_); clear hQ hP Q) | apply gwB | apply gwT | apply gwK | apply gwE | apply gwG | apply gwL | simp only [blockG_exit] | (refine gwC ?_ ?_ <;> (intro hb; first | (cases hb; done) | skip)))
    refine ⟨.inr rfl, by simp [Tryd.results22], keep_of G0F (by simp) (by (intro k hk; first | rfl | (simp (disch := omega) only [addB, List.mem_cons, List.not_mem_nil, or_false, upd_other, hpL_cons, hpL_nil, if_neg, updL] <;> done)))⟩
  have a00n : ¬ n0 < 1 := by omega
  by_cases a01 : n0 ≤ most
  rotate_left
  · have a01n : most < n0 := by omega
    have hd : decide ((1 ≤ n0 ∧ n0 ≤ most)) = false := decide_eq_false (by omega)
    rw [hd]
    repeat' (first | apply gwS | refine GWL_start ?_ | refine GWL_step ?_ | simp only [wN, wM, Nat.reduceAdd, Nat.reduceMul] | ((first | refine gwR [] ?_ | refine gwD [] ?_); intro Q hQ hP; simp [hC, hY, a00, a00n, a01, a01n]; (first | refine hQ _ _ _ _ (by kernel_rfl) ?_ | refine hP _ _ (by kernel_rfl) fun _ => ?_); clear hQ hP Q) | apply gwB | apply gwT | apply gwK | apply gwE | apply gwG | apply gwL | simp only [blockG_exit] | (refine gwC ?_ ?_ <;> (intro hb; first | (cases hb; done) | skip)))
    refine ⟨.inr rfl, by simp [Tryd.results22], keep_of G0F (by simp) (by (intro k hk; first | rfl | (simp (disch := omega) only [addB, List.mem_cons, List.not_mem_nil, or_false, upd_other, hpL_cons, hpL_nil, if_neg, updL] <;> done)))⟩
  have a01n : ¬ most < n0 := by omega
  have hd : decide ((1 ≤ n0 ∧ n0 ≤ most)) = true := decide_eq_true (by omega)
  rw [hd]
  repeat' (first | apply gwS | refine GWL_start ?_ | refine GWL_step ?_ | simp only [wN, wM, Nat.reduceAdd, Nat.reduceMul] | ((first | refine gwR [] ?_ | refine gwD [] ?_); intro Q hQ hP; simp [hC, hY, a00, a00n, a01, a01n]; (first | refine hQ _ _ _ _ (by kernel_rfl) ?_ | refine hP _ _ (by kernel_rfl) fun _ => ?_); clear hQ hP Q) | apply gwB | apply gwT | apply gwK | apply gwE | apply gwG | apply gwL | simp only [blockG_exit] | (refine gwC ?_ ?_ <;> (intro hb; first | (cases hb; done) | skip)))
  refine ⟨.inr rfl, by simp [Tryd.results22], keep_of G0F (by simp) (by (intro k hk; first | rfl | (simp (disch := omega) only [addB, List.mem_cons, List.not_mem_nil, or_false, upd_other, hpL_cons, hpL_nil, if_neg, updL] <;> done)))⟩
theorem ewithin2 (most n0 n1 : Int) : Fun Tryd.prog G0 22 #[.int .i64 most, .slice (some ⟨100, 0, none⟩) 2 2] (hpL G0 [(100, ⟨#[.int .i64 n0, .int .i64 n1], .ty 3⟩)]) (keys [(100, (⟨#[.int .i64 n0, .int .i64 n1], .ty 3⟩ : Blk))]) (.ret (.bool (decide ((1 ≤ n0 ∧ n0 ≤ most) ∧ (1 ≤ n1 ∧ n1 ≤ most)))) []) := by
  refine fun_ofL (B := 200) G0F Tryd.func22 rfl Tryd.call22 ⟨by simp, by simp [keys], by simp [ids_lit, idsF, ids0]⟩ ?_ (by simp) (by simp) (by simp) (by simp [Tryd.ntmps22]) (by omega) ?_
  · simp [idsV, idsA, idsF, ids0, keys]
  intro C hC hC0 hY
  by_cases a00 : 1 ≤ n0
  rotate_left
  · have a00n : n0 < 1 := by omega
    have hd : decide ((1 ≤ n0 ∧ n0 ≤ most) ∧ (1 ≤ n1 ∧ n1 ≤ most)) = false := decide_eq_false (by omega)
    rw [hd]
    repeat' (first | apply gwS | refine GWL_start ?_ | refine GWL_step ?_ | simp only [wN, wM, Nat.reduceAdd, Nat.reduceMul] | ((first | refine gwR [] ?_ | refine gwD [] ?_); intro Q hQ hP; simp [hC, hY, a00, a00n]; (first | refine hQ _ _ _ _ (by kernel_rfl) ?_ | refine hP _ _ (by kernel_rfl) fun _ => ?_); clear hQ hP Q) | apply gwB | apply gwT | apply gwK | apply gwE | apply gwG | apply gwL | simp only [blockG_exit] | (refine gwC ?_ ?_ <;> (intro hb; first | (cases hb; done) | skip)))
    refine ⟨.inr rfl, by simp [Tryd.results22], keep_of G0F (by simp) (by (intro k hk; first | rfl | (simp (disch := omega) only [addB, List.mem_cons, List.not_mem_nil, or_false, upd_other, hpL_cons, hpL_nil, if_neg, updL] <;> done)))⟩
  have a00n : ¬ n0 < 1 := by omega
  by_cases a01 : n0 ≤ most
  rotate_left
  · have a01n : most < n0 := by omega
    have hd : decide ((1 ≤ n0 ∧ n0 ≤ most) ∧ (1 ≤ n1 ∧ n1 ≤ most)) = false := decide_eq_false (by omega)
    rw [hd]
    repeat' (first | apply gwS | refine GWL_start ?_ | refine GWL_step ?_ | simp only [wN, wM, Nat.reduceAdd, Nat.reduceMul] | ((first | refine gwR [] ?_ | refine gwD [] ?_); intro Q hQ hP; simp [hC, hY, a00, a00n, a01, a01n]; (first | refine hQ _ _ _ _ (by kernel_rfl) ?_ | refine hP _ _ (by kernel_rfl) fun _ => ?_); clear hQ hP Q) | apply gwB | apply gwT | apply gwK | apply gwE | apply gwG | apply gwL | simp only [blockG_exit] | (refine gwC ?_ ?_ <;> (intro hb; first | (cases hb; done) | skip)))
    refine ⟨.inr rfl, by simp [Tryd.results22], keep_of G0F (by simp) (by (intro k hk; first | rfl | (simp (disch := omega) only [addB, List.mem_cons, List.not_mem_nil, or_false, upd_other, hpL_cons, hpL_nil, if_neg, updL] <;> done)))⟩
  have a01n : ¬ most < n0 := by omega
  by_cases a10 : 1 ≤ n1
  rotate_left
  · have a10n : n1 < 1 := by omega
    have hd : decide ((1 ≤ n0 ∧ n0 ≤ most) ∧ (1 ≤ n1 ∧ n1 ≤ most)) = false := decide_eq_false (by omega)
    rw [hd]
    repeat' (first | apply gwS | refine GWL_start ?_ | refine GWL_step ?_ | simp only [wN, wM, Nat.reduceAdd, Nat.reduceMul] | ((first | refine gwR [] ?_ | refine gwD [] ?_); intro Q hQ hP; simp [hC, hY, a00, a00n, a01, a01n, a10, a10n]; (first | refine hQ _ _ _ _ (by kernel_rfl) ?_ | refine hP _ _ (by kernel_rfl) fun _ => ?_); clear hQ hP Q) | apply gwB | apply gwT | apply gwK | apply gwE | apply gwG | apply gwL | simp only [blockG_exit] | (refine gwC ?_ ?_ <;> (intro hb; first | (cases hb; done) | skip)))
    refine ⟨.inr rfl, by simp [Tryd.results22], keep_of G0F (by simp) (by (intro k hk; first | rfl | (simp (disch := omega) only [addB, List.mem_cons, List.not_mem_nil, or_false, upd_other, hpL_cons, hpL_nil, if_neg, updL] <;> done)))⟩
  have a10n : ¬ n1 < 1 := by omega
  by_cases a11 : n1 ≤ most
  rotate_left
  · have a11n : most < n1 := by omega
    have hd : decide ((1 ≤ n0 ∧ n0 ≤ most) ∧ (1 ≤ n1 ∧ n1 ≤ most)) = false := decide_eq_false (by omega)
    rw [hd]
    repeat' (first | apply gwS | refine GWL_start ?_ | refine GWL_step ?_ | simp only [wN, wM, Nat.reduceAdd, Nat.reduceMul] | ((first | refine gwR [] ?_ | refine gwD [] ?_); intro Q hQ hP; simp [hC, hY, a00, a00n, a01, a01n, a10, a10n, a11, a11n]; (first | refine hQ _ _ _ _ (by kernel_rfl) ?_ | refine hP _ _ (by kernel_rfl) fun _ => ?_); clear hQ hP Q) | apply gwB | apply gwT | apply gwK | apply gwE | apply gwG | apply gwL | simp only [blockG_exit] | (refine gwC ?_ ?_ <;> (intro hb; first | (cases hb; done) | skip)))
    refine ⟨.inr rfl, by simp [Tryd.results22], keep_of G0F (by simp) (by (intro k hk; first | rfl | (simp (disch := omega) only [addB, List.mem_cons, List.not_mem_nil, or_false, upd_other, hpL_cons, hpL_nil, if_neg, updL] <;> done)))⟩
  have a11n : ¬ most < n1 := by omega
  have hd : decide ((1 ≤ n0 ∧ n0 ≤ most) ∧ (1 ≤ n1 ∧ n1 ≤ most)) = true := decide_eq_true (by omega)
  rw [hd]
  repeat' (first | apply gwS | refine GWL_start ?_ | refine GWL_step ?_ | simp only [wN, wM, Nat.reduceAdd, Nat.reduceMul] | ((first | refine gwR [] ?_ | refine gwD [] ?_); intro Q hQ hP; simp [hC, hY, a00, a00n, a01, a01n, a10, a10n, a11, a11n]; (first | refine hQ _ _ _ _ (by kernel_rfl) ?_ | refine hP _ _ (by kernel_rfl) fun _ => ?_); clear hQ hP Q) | apply gwB | apply gwT | apply gwK | apply gwE | apply gwG | apply gwL | simp only [blockG_exit] | (refine gwC ?_ ?_ <;> (intro hb; first | (cases hb; done) | skip)))
  refine ⟨.inr rfl, by simp [Tryd.results22], keep_of G0F (by simp) (by (intro k hk; first | rfl | (simp (disch := omega) only [addB, List.mem_cons, List.not_mem_nil, or_false, upd_other, hpL_cons, hpL_nil, if_neg, updL] <;> done)))⟩
theorem ewhole_ret (r a n : Int) (hi : i64 n) (w1 : wr (r * r)) (w2 : wr (r * r * n)) (w3 : wr (a * a)) (hr : wr r) (ha : wr a) : Ret Tryd.prog G0 27 #[wd r, wd a, .int .i64 n] (.bool (decide (r * r * n = a * a))) := by
  refine ret_of G0F Tryd.func27 rfl Tryd.call27 rfl (by simp) (by simp [Tryd.ntmps27]) ?_
  intro C hC hC0 hY
  have s1 := wr_sz w1
  have s2 := wr_sz w2
  have s3 := wr_sz w3
  have s4 := wr_sz hr
  have s5 := wr_sz ha
  have s6 := wr_sz (i64_wr hi)
  repeat' (first | apply gwS | simp only [wN, wM, Nat.reduceAdd, Nat.reduceMul] | ((first | refine gwR [] ?_ | refine gwD [] ?_); intro Q hQ hP; simp [hC, hY, hi, s1, s2, s3, s4, s5, s6]; (first | refine hQ _ _ _ _ (by kernel_rfl) ?_ | refine hP _ _ (by kernel_rfl) fun _ => ?_); clear hQ hP Q) | apply gwB | apply gwT | apply gwK | apply gwE | apply gwG | apply gwL | simp only [blockG_exit] | (refine gwC ?_ ?_ <;> (intro hb; first | (cases hb; done) | skip)))
  refine ⟨.inr trivial, ?_⟩
  simp [Tryd.results27]
  rw [weq, s2, s3]
@[simp] theorem ewhole (r a n : Int) (hi : i64 n) (w1 : wr (r * r)) (w2 : wr (r * r * n)) (w3 : wr (a * a)) (hr : wr r) (ha : wr a) (K : Value → Prop) : callK Tryd.prog G0 27 #[Value.agg #[.int .u64 (wi (r) 0), .int .u64 (wi (r) 1), .int .u64 (wi (r) 2), .int .u64 (wi (r) 3)], Value.agg #[.int .u64 (wi (a) 0), .int .u64 (wi (a) 1), .int .u64 (wi (a) 2), .int .u64 (wi (a) 3)], .int .i64 n] K ↔ K (.bool (decide (r * r * n = a * a))) := callK_iff G0W (by kernel_rfl) (ewhole_ret r a n hi w1 w2 w3 hr ha)
theorem ewi1_t {most n0 : Int} (h : (1 ≤ n0 ∧ n0 ≤ most)) : Fun Tryd.prog G0 22 #[.int .i64 most, .slice (some ⟨100, 0, none⟩) 1 1] (hpL G0 [(100, ⟨#[.int .i64 n0], .ty 3⟩)]) [100] (.ret (.bool true) []) := by
  have e := ewithin1 most n0
  rw [decide_eq_true h] at e
  exact e
theorem ewi1_f {most n0 : Int} (h : ¬ ((1 ≤ n0 ∧ n0 ≤ most))) : Fun Tryd.prog G0 22 #[.int .i64 most, .slice (some ⟨100, 0, none⟩) 1 1] (hpL G0 [(100, ⟨#[.int .i64 n0], .ty 3⟩)]) [100] (.ret (.bool false) []) := by
  have e := ewithin1 most n0
  rw [decide_eq_false h] at e
  exact e
theorem ewi2_t {most n0 n1 : Int} (h : (1 ≤ n0 ∧ n0 ≤ most) ∧ (1 ≤ n1 ∧ n1 ≤ most)) : Fun Tryd.prog G0 22 #[.int .i64 most, .slice (some ⟨100, 0, none⟩) 2 2] (hpL G0 [(100, ⟨#[.int .i64 n0, .int .i64 n1], .ty 3⟩)]) [100] (.ret (.bool true) []) := by
  have e := ewithin2 most n0 n1
  rw [decide_eq_true h] at e
  exact e
theorem ewi2_f {most n0 n1 : Int} (h : ¬ ((1 ≤ n0 ∧ n0 ≤ most) ∧ (1 ≤ n1 ∧ n1 ≤ most))) : Fun Tryd.prog G0 22 #[.int .i64 most, .slice (some ⟨100, 0, none⟩) 2 2] (hpL G0 [(100, ⟨#[.int .i64 n0, .int .i64 n1], .ty 3⟩)]) [100] (.ret (.bool false) []) := by
  have e := ewithin2 most n0 n1
  rw [decide_eq_false h] at e
  exact e
set_option maxHeartbeats 1000000 in
theorem epair_ok {g m w q : Int} (h : EIn g m w q) (hq : 0 < q) : Ret Tryd.prog G0 7 #[.int .i64 g, .int .i64 m, .int .i64 w, .int .i64 q] (.tuple #[.int .i64 (enLo g m w q), .int .i64 (enHi g m w q), .int .i64 0]) := by
  refine ret_of G0F Tryd.func7 rfl Tryd.call7 (by simp) (by simp) (by simp [Tryd.ntmps7]) ?_
  intro C hC hC0 hY
  have k1 := h.gm
  have k2 := h.gmw
  have k3 := h.a
  have k4 := h.aa
  have k5 := h.lo hq
  have k6 := h.hi hq
  have k7 := (h.holds hq).1
  have k8 := lolo_bd k5.1 k5.2 h.q0 h.q1
  have k9 := en_hi_eq g m w q
  have hw1 : (1 ≤ g ∧ g ≤ 1048576) := ⟨h.g0, h.g1⟩
  have hw2 : (1 ≤ m ∧ m ≤ 1024) ∧ (1 ≤ w ∧ w ≤ 1024) := ⟨⟨h.m0, h.m1⟩, h.w0, h.w1⟩
  have hq0 : ¬ q < 0 := by omega
  have hq1 : ¬ 13194139533312 < q := by have := h.q1; omega
  have iq : i64 q := ⟨by omega, by omega⟩
  have eA : enA g m w = g * m * w * 1048576 := rfl
  have eL : enLo g m w q = isq (enA g m w * enA g m w / q) := rfl
  have iA : i64 (enA g m w) := ⟨by omega, by omega⟩
  have iL : i64 (enLo g m w q) := ⟨by omega, by omega⟩
  have wA := i64_wr iA
  have wL := i64_wr iL
  have wq := i64_wr iq
  have wAA : wr (enA g m w * enA g m w) := ⟨Int.le_trans (by decide) k4.1, Int.lt_of_le_of_lt k4.2 (by decide)⟩
  have w2 : wr (enLo g m w q * enLo g m w q) := ⟨Int.le_trans (by decide) k8.1, Int.lt_of_le_of_lt k8.2.1 (by decide)⟩
  have w3 : wr (enLo g m w q * enLo g m w q * q) := ⟨Int.le_trans (by decide) k8.2.2.1, Int.lt_of_le_of_lt k8.2.2.2 (by decide)⟩
  have b1 : Int.bmod (g * m) 18446744073709551616 = g * m := bm (by omega) (by omega)
  have b2 : Int.bmod (g * m * w) 18446744073709551616 = g * m * w := bm (by omega) (by omega)
  have b3 : Int.bmod (g * m * w * 1048576) 18446744073709551616 = g * m * w * 1048576 := bm (by omega) (by omega)
  have b4 : Int.bmod (enLo g m w q + 1) 18446744073709551616 = enLo g m w q + 1 := bm (by omega) (by omega)
  have s1 := wr_sz wA
  have s2 := wr_sz wAA
  have s3 := wr_sz wL
  rw [k9]
  generalize enLo g m w q = R at *
  simp only [eA] at iA wA wAA k4 s1 s2 eL k7 k9 ⊢
  have hR := eL.symm
  clear eL eA
  by_cases c : R * R * q = g * m * w * 1048576 * (g * m * w * 1048576)
  · rw [if_pos c]
    repeat' (first | apply gwS | simp only [wN, wM, Nat.reduceAdd, Nat.reduceMul] | ((first | refine gwR [22] ?_ | refine gwD [22] ?_); intro Q hQ hP; simp [hC, hY, hq0, hq1, b1, b2, b3, b4, iq, iA, iL, wA, wL, wq, wAA, w2, w3, s1, s2, s3, hR, k4.1, hq, c]; (repeat ((first | (refine heapK_slA (ewi1_t hw1) (by simp) rfl (by simp) (by simp) ?_) | (refine heapK_slA (ewi2_t hw2) (by simp) rfl (by simp) (by simp) ?_)); try simp [hC, hY, hq0, hq1, b1, b2, b3, b4, iq, iA, iL, wA, wL, wq, wAA, w2, w3, s1, s2, s3, hR, k4.1, hq, c])); (first | refine hQ _ _ _ _ (by kernel_rfl) ?_ | refine hP _ _ (by kernel_rfl) fun _ => ?_); clear hQ hP Q) | apply gwB | apply gwT | apply gwK | apply gwE | apply gwG | apply gwL | simp only [blockG_exit] | (refine gwC ?_ ?_ <;> (intro hb; first | (cases hb; done) | skip)))
    refine GW_scope' 0 (fun _ _ => False) rfl (fun _ _ h => h.elim) ?_
    intro _
    repeat' (first | apply gwS | simp only [wN, wM, Nat.reduceAdd, Nat.reduceMul] | ((first | refine gwR [22] ?_ | refine gwD [22] ?_); intro Q hQ hP; simp [hC, hY, hq0, hq1, b1, b2, b3, b4, iq, iA, iL, wA, wL, wq, wAA, w2, w3, s1, s2, s3, hR, k4.1, hq, c]; (repeat ((first | (refine heapK_slA (ewi1_t hw1) (by simp) rfl (by simp) (by simp) ?_) | (refine heapK_slA (ewi2_t hw2) (by simp) rfl (by simp) (by simp) ?_)); try simp [hC, hY, hq0, hq1, b1, b2, b3, b4, iq, iA, iL, wA, wL, wq, wAA, w2, w3, s1, s2, s3, hR, k4.1, hq, c])); (first | refine hQ _ _ _ _ (by kernel_rfl) ?_ | refine hP _ _ (by kernel_rfl) fun _ => ?_); clear hQ hP Q) | apply gwB | apply gwT | apply gwK | apply gwE | apply gwG | apply gwL | simp only [blockG_exit] | (refine gwC ?_ ?_ <;> (intro hb; first | (cases hb; done) | skip)))
    refine ⟨.inr trivial, ?_⟩
    simp [Tryd.results7]
  · rw [if_neg c]
    repeat' (first | apply gwS | simp only [wN, wM, Nat.reduceAdd, Nat.reduceMul] | ((first | refine gwR [22] ?_ | refine gwD [22] ?_); intro Q hQ hP; simp [hC, hY, hq0, hq1, b1, b2, b3, b4, iq, iA, iL, wA, wL, wq, wAA, w2, w3, s1, s2, s3, hR, k4.1, hq, c]; (repeat ((first | (refine heapK_slA (ewi1_t hw1) (by simp) rfl (by simp) (by simp) ?_) | (refine heapK_slA (ewi2_t hw2) (by simp) rfl (by simp) (by simp) ?_)); try simp [hC, hY, hq0, hq1, b1, b2, b3, b4, iq, iA, iL, wA, wL, wq, wAA, w2, w3, s1, s2, s3, hR, k4.1, hq, c])); (first | refine hQ _ _ _ _ (by kernel_rfl) ?_ | refine hP _ _ (by kernel_rfl) fun _ => ?_); clear hQ hP Q) | apply gwB | apply gwT | apply gwK | apply gwE | apply gwG | apply gwL | simp only [blockG_exit] | (refine gwC ?_ ?_ <;> (intro hb; first | (cases hb; done) | skip)))
    refine GW_scope' 0 (fun _ _ => False) rfl (fun _ _ h => h.elim) ?_
    intro _
    repeat' (first | apply gwS | simp only [wN, wM, Nat.reduceAdd, Nat.reduceMul] | ((first | refine gwR [22] ?_ | refine gwD [22] ?_); intro Q hQ hP; simp [hC, hY, hq0, hq1, b1, b2, b3, b4, iq, iA, iL, wA, wL, wq, wAA, w2, w3, s1, s2, s3, hR, k4.1, hq, c]; (repeat ((first | (refine heapK_slA (ewi1_t hw1) (by simp) rfl (by simp) (by simp) ?_) | (refine heapK_slA (ewi2_t hw2) (by simp) rfl (by simp) (by simp) ?_)); try simp [hC, hY, hq0, hq1, b1, b2, b3, b4, iq, iA, iL, wA, wL, wq, wAA, w2, w3, s1, s2, s3, hR, k4.1, hq, c])); (first | refine hQ _ _ _ _ (by kernel_rfl) ?_ | refine hP _ _ (by kernel_rfl) fun _ => ?_); clear hQ hP Q) | apply gwB | apply gwT | apply gwK | apply gwE | apply gwG | apply gwL | simp only [blockG_exit] | (refine gwC ?_ ?_ <;> (intro hb; first | (cases hb; done) | skip)))
    refine ⟨.inr trivial, ?_⟩
    simp [Tryd.results7, b4]
@[simp] theorem rOf_ze (a : Int) (K : Value → Prop) : callK Tryd.prog G0 25 #[Value.agg #[.int .u64 (wi (a) 0), .int .u64 (wi (a) 1), .int .u64 (wi (a) 2), .int .u64 (wi (a) 3)], .agg #[.int .u64 0, .int .u64 0, .int .u64 0, .int .u64 0]] K ↔ K (.tuple #[wd 0, .int .i64 30]) := by
  have := rOf_z a 0 rfl K
  simpa [wi_zero] using this
set_option maxHeartbeats 1000000 in
theorem epair_b1 {g m w q : Int} (hw1 : ¬ (1 ≤ g ∧ g ≤ 1048576)) : Ret Tryd.prog G0 7 #[.int .i64 g, .int .i64 m, .int .i64 w, .int .i64 q] (.tuple #[.int .i64 0, .int .i64 0, .int .i64 2]) := by
  refine ret_of G0F Tryd.func7 rfl Tryd.call7 (by simp) (by simp) (by simp [Tryd.ntmps7]) ?_
  intro C hC hC0 hY
  repeat' (first | apply gwS | simp only [wN, wM, Nat.reduceAdd, Nat.reduceMul] | ((first | refine gwR [22] ?_ | refine gwD [22] ?_); intro Q hQ hP; simp [hC, hY]; (repeat ((first | (refine heapK_slA (ewi1_f hw1) (by simp) rfl (by simp) (by simp) ?_)); try simp [hC, hY])); (first | refine hQ _ _ _ _ (by kernel_rfl) ?_ | refine hP _ _ (by kernel_rfl) fun _ => ?_); clear hQ hP Q) | apply gwB | apply gwT | apply gwK | apply gwE | apply gwG | apply gwL | simp only [blockG_exit] | (refine gwC ?_ ?_ <;> (intro hb; first | (cases hb; done) | skip)))
  refine GW_scope' 0 (fun m s => s = ⟨tsL [(10, .int .i64 2)], hpL G0 [], 1000, 0⟩) rfl ?_ ?_
  · rintro m _ rfl
    repeat' (first | apply gwS | simp only [wN, wM, Nat.reduceAdd, Nat.reduceMul] | ((first | refine gwR [] ?_ | refine gwD [] ?_); intro Q hQ hP; simp [hC, hY]; (first | refine hQ _ _ _ _ (by kernel_rfl) ?_ | refine hP _ _ (by kernel_rfl) fun _ => ?_); clear hQ hP Q) | apply gwB | apply gwT | apply gwK | apply gwE | apply gwG | apply gwL | simp only [blockG_exit] | (refine gwC ?_ ?_ <;> (intro hb; first | (cases hb; done) | skip)))
    refine ⟨.inr trivial, ?_⟩
    simp [Tryd.results7]
  · intro _
    repeat' (first | apply gwS | simp only [wN, wM, Nat.reduceAdd, Nat.reduceMul] | ((first | refine gwR [22] ?_ | refine gwD [22] ?_); intro Q hQ hP; simp [hC, hY]; (repeat ((first | (refine heapK_slA (ewi1_f hw1) (by simp) rfl (by simp) (by simp) ?_)); try simp [hC, hY])); (first | refine hQ _ _ _ _ (by kernel_rfl) ?_ | refine hP _ _ (by kernel_rfl) fun _ => ?_); clear hQ hP Q) | apply gwB | apply gwT | apply gwK | apply gwE | apply gwG | apply gwL | simp only [blockG_exit] | (refine gwC ?_ ?_ <;> (intro hb; first | (cases hb; done) | skip)))
    refine ⟨rfl, _, 0, weakL _ 1000 hC G0F (m0 := []) hC0 (by omega) ?_ ?_ ?_, rfl⟩
    · simp [idsV, idsA, idsF, ids0, dom]
    · simp [ids_lit, idsF, ids0, dom]
    · simp
set_option maxHeartbeats 1000000 in
theorem epair_b2 {g m w q : Int} (hw1 : (1 ≤ g ∧ g ≤ 1048576)) (hw2 : ¬ ((1 ≤ m ∧ m ≤ 1024) ∧ (1 ≤ w ∧ w ≤ 1024))) : Ret Tryd.prog G0 7 #[.int .i64 g, .int .i64 m, .int .i64 w, .int .i64 q] (.tuple #[.int .i64 0, .int .i64 0, .int .i64 2]) := by
  refine ret_of G0F Tryd.func7 rfl Tryd.call7 (by simp) (by simp) (by simp [Tryd.ntmps7]) ?_
  intro C hC hC0 hY
  repeat' (first | apply gwS | simp only [wN, wM, Nat.reduceAdd, Nat.reduceMul] | ((first | refine gwR [22] ?_ | refine gwD [22] ?_); intro Q hQ hP; simp [hC, hY]; (repeat ((first | (refine heapK_slA (ewi1_t hw1) (by simp) rfl (by simp) (by simp) ?_) | (refine heapK_slA (ewi2_f hw2) (by simp) rfl (by simp) (by simp) ?_)); try simp [hC, hY])); (first | refine hQ _ _ _ _ (by kernel_rfl) ?_ | refine hP _ _ (by kernel_rfl) fun _ => ?_); clear hQ hP Q) | apply gwB | apply gwT | apply gwK | apply gwE | apply gwG | apply gwL | simp only [blockG_exit] | (refine gwC ?_ ?_ <;> (intro hb; first | (cases hb; done) | skip)))
  refine GW_scope' 0 (fun m s => s = ⟨tsL [(10, .int .i64 2)], hpL G0 [], 1000, 0⟩) rfl ?_ ?_
  · rintro m _ rfl
    repeat' (first | apply gwS | simp only [wN, wM, Nat.reduceAdd, Nat.reduceMul] | ((first | refine gwR [] ?_ | refine gwD [] ?_); intro Q hQ hP; simp [hC, hY]; (first | refine hQ _ _ _ _ (by kernel_rfl) ?_ | refine hP _ _ (by kernel_rfl) fun _ => ?_); clear hQ hP Q) | apply gwB | apply gwT | apply gwK | apply gwE | apply gwG | apply gwL | simp only [blockG_exit] | (refine gwC ?_ ?_ <;> (intro hb; first | (cases hb; done) | skip)))
    refine ⟨.inr trivial, ?_⟩
    simp [Tryd.results7]
  · intro _
    repeat' (first | apply gwS | simp only [wN, wM, Nat.reduceAdd, Nat.reduceMul] | ((first | refine gwR [22] ?_ | refine gwD [22] ?_); intro Q hQ hP; simp [hC, hY]; (repeat ((first | (refine heapK_slA (ewi1_t hw1) (by simp) rfl (by simp) (by simp) ?_) | (refine heapK_slA (ewi2_f hw2) (by simp) rfl (by simp) (by simp) ?_)); try simp [hC, hY])); (first | refine hQ _ _ _ _ (by kernel_rfl) ?_ | refine hP _ _ (by kernel_rfl) fun _ => ?_); clear hQ hP Q) | apply gwB | apply gwT | apply gwK | apply gwE | apply gwG | apply gwL | simp only [blockG_exit] | (refine gwC ?_ ?_ <;> (intro hb; first | (cases hb; done) | skip)))
    refine ⟨rfl, _, 0, weakL _ 1000 hC G0F (m0 := []) hC0 (by omega) ?_ ?_ ?_, rfl⟩
    · simp [idsV, idsA, idsF, ids0, dom]
    · simp [ids_lit, idsF, ids0, dom]
    · simp
set_option maxHeartbeats 1000000 in
theorem epair_b3 {g m w q : Int} (hw1 : (1 ≤ g ∧ g ≤ 1048576)) (hw2 : (1 ≤ m ∧ m ≤ 1024) ∧ (1 ≤ w ∧ w ≤ 1024)) (h3 : q < 0) : Ret Tryd.prog G0 7 #[.int .i64 g, .int .i64 m, .int .i64 w, .int .i64 q] (.tuple #[.int .i64 0, .int .i64 0, .int .i64 2]) := by
  refine ret_of G0F Tryd.func7 rfl Tryd.call7 (by simp) (by simp) (by simp [Tryd.ntmps7]) ?_
  intro C hC hC0 hY
  repeat' (first | apply gwS | simp only [wN, wM, Nat.reduceAdd, Nat.reduceMul] | ((first | refine gwR [22] ?_ | refine gwD [22] ?_); intro Q hQ hP; simp [hC, hY, h3]; (repeat ((first | (refine heapK_slA (ewi1_t hw1) (by simp) rfl (by simp) (by simp) ?_) | (refine heapK_slA (ewi2_t hw2) (by simp) rfl (by simp) (by simp) ?_)); try simp [hC, hY, h3])); (first | refine hQ _ _ _ _ (by kernel_rfl) ?_ | refine hP _ _ (by kernel_rfl) fun _ => ?_); clear hQ hP Q) | apply gwB | apply gwT | apply gwK | apply gwE | apply gwG | apply gwL | simp only [blockG_exit] | (refine gwC ?_ ?_ <;> (intro hb; first | (cases hb; done) | skip)))
  refine GW_scope' 0 (fun m s => s = ⟨tsL [(10, .int .i64 2)], hpL G0 [], 1000, 0⟩) rfl ?_ ?_
  · rintro m _ rfl
    repeat' (first | apply gwS | simp only [wN, wM, Nat.reduceAdd, Nat.reduceMul] | ((first | refine gwR [] ?_ | refine gwD [] ?_); intro Q hQ hP; simp [hC, hY]; (first | refine hQ _ _ _ _ (by kernel_rfl) ?_ | refine hP _ _ (by kernel_rfl) fun _ => ?_); clear hQ hP Q) | apply gwB | apply gwT | apply gwK | apply gwE | apply gwG | apply gwL | simp only [blockG_exit] | (refine gwC ?_ ?_ <;> (intro hb; first | (cases hb; done) | skip)))
    refine ⟨.inr trivial, ?_⟩
    simp [Tryd.results7]
  · intro _
    repeat' (first | apply gwS | simp only [wN, wM, Nat.reduceAdd, Nat.reduceMul] | ((first | refine gwR [22] ?_ | refine gwD [22] ?_); intro Q hQ hP; simp [hC, hY, h3]; (repeat ((first | (refine heapK_slA (ewi1_t hw1) (by simp) rfl (by simp) (by simp) ?_) | (refine heapK_slA (ewi2_t hw2) (by simp) rfl (by simp) (by simp) ?_)); try simp [hC, hY, h3])); (first | refine hQ _ _ _ _ (by kernel_rfl) ?_ | refine hP _ _ (by kernel_rfl) fun _ => ?_); clear hQ hP Q) | apply gwB | apply gwT | apply gwK | apply gwE | apply gwG | apply gwL | simp only [blockG_exit] | (refine gwC ?_ ?_ <;> (intro hb; first | (cases hb; done) | skip)))
    refine ⟨rfl, _, 0, weakL _ 1000 hC G0F (m0 := []) hC0 (by omega) ?_ ?_ ?_, rfl⟩
    · simp [idsV, idsA, idsF, ids0, dom]
    · simp [ids_lit, idsF, ids0, dom]
    · simp
set_option maxHeartbeats 1000000 in
theorem epair_b4 {g m w q : Int} (hw1 : (1 ≤ g ∧ g ≤ 1048576)) (hw2 : (1 ≤ m ∧ m ≤ 1024) ∧ (1 ≤ w ∧ w ≤ 1024)) (h3 : ¬ q < 0) (h4 : 13194139533312 < q) : Ret Tryd.prog G0 7 #[.int .i64 g, .int .i64 m, .int .i64 w, .int .i64 q] (.tuple #[.int .i64 0, .int .i64 0, .int .i64 2]) := by
  refine ret_of G0F Tryd.func7 rfl Tryd.call7 (by simp) (by simp) (by simp [Tryd.ntmps7]) ?_
  intro C hC hC0 hY
  repeat' (first | apply gwS | simp only [wN, wM, Nat.reduceAdd, Nat.reduceMul] | ((first | refine gwR [22] ?_ | refine gwD [22] ?_); intro Q hQ hP; simp [hC, hY, h3, h4]; (repeat ((first | (refine heapK_slA (ewi1_t hw1) (by simp) rfl (by simp) (by simp) ?_) | (refine heapK_slA (ewi2_t hw2) (by simp) rfl (by simp) (by simp) ?_)); try simp [hC, hY, h3, h4])); (first | refine hQ _ _ _ _ (by kernel_rfl) ?_ | refine hP _ _ (by kernel_rfl) fun _ => ?_); clear hQ hP Q) | apply gwB | apply gwT | apply gwK | apply gwE | apply gwG | apply gwL | simp only [blockG_exit] | (refine gwC ?_ ?_ <;> (intro hb; first | (cases hb; done) | skip)))
  refine GW_scope' 0 (fun m s => s = ⟨tsL [(10, .int .i64 2)], hpL G0 [], 1000, 0⟩) rfl ?_ ?_
  · rintro m _ rfl
    repeat' (first | apply gwS | simp only [wN, wM, Nat.reduceAdd, Nat.reduceMul] | ((first | refine gwR [] ?_ | refine gwD [] ?_); intro Q hQ hP; simp [hC, hY]; (first | refine hQ _ _ _ _ (by kernel_rfl) ?_ | refine hP _ _ (by kernel_rfl) fun _ => ?_); clear hQ hP Q) | apply gwB | apply gwT | apply gwK | apply gwE | apply gwG | apply gwL | simp only [blockG_exit] | (refine gwC ?_ ?_ <;> (intro hb; first | (cases hb; done) | skip)))
    refine ⟨.inr trivial, ?_⟩
    simp [Tryd.results7]
  · intro _
    repeat' (first | apply gwS | simp only [wN, wM, Nat.reduceAdd, Nat.reduceMul] | ((first | refine gwR [22] ?_ | refine gwD [22] ?_); intro Q hQ hP; simp [hC, hY, h3, h4]; (repeat ((first | (refine heapK_slA (ewi1_t hw1) (by simp) rfl (by simp) (by simp) ?_) | (refine heapK_slA (ewi2_t hw2) (by simp) rfl (by simp) (by simp) ?_)); try simp [hC, hY, h3, h4])); (first | refine hQ _ _ _ _ (by kernel_rfl) ?_ | refine hP _ _ (by kernel_rfl) fun _ => ?_); clear hQ hP Q) | apply gwB | apply gwT | apply gwK | apply gwE | apply gwG | apply gwL | simp only [blockG_exit] | (refine gwC ?_ ?_ <;> (intro hb; first | (cases hb; done) | skip)))
    refine ⟨rfl, _, 0, weakL _ 1000 hC G0F (m0 := []) hC0 (by omega) ?_ ?_ ?_, rfl⟩
    · simp [idsV, idsA, idsF, ids0, dom]
    · simp [ids_lit, idsF, ids0, dom]
    · simp
set_option maxHeartbeats 1000000 in
theorem epair_z {g m w q : Int} (h : EIn g m w q) (hq : q = 0) : Ret Tryd.prog G0 7 #[.int .i64 g, .int .i64 m, .int .i64 w, .int .i64 q] (.tuple #[.int .i64 0, .int .i64 0, .int .i64 30]) := by
  refine ret_of G0F Tryd.func7 rfl Tryd.call7 (by simp) (by simp) (by simp [Tryd.ntmps7]) ?_
  intro C hC hC0 hY
  subst hq
  have k1 := h.gm
  have k2 := h.gmw
  have hw1 : (1 ≤ g ∧ g ≤ 1048576) := ⟨h.g0, h.g1⟩
  have hw2 : (1 ≤ m ∧ m ≤ 1024) ∧ (1 ≤ w ∧ w ≤ 1024) := ⟨⟨h.m0, h.m1⟩, h.w0, h.w1⟩
  have hq0 : ¬ (0 : Int) < 0 := by omega
  have hq1 : ¬ (13194139533312 : Int) < 0 := by omega
  have i0 : i64 0 := by decide
  have z0 : (0 : Int) = 0 := rfl
  have b1 : Int.bmod (g * m) 18446744073709551616 = g * m := bm (by omega) (by omega)
  have b2 : Int.bmod (g * m * w) 18446744073709551616 = g * m * w := bm (by omega) (by omega)
  have b3 : Int.bmod (g * m * w * 1048576) 18446744073709551616 = g * m * w * 1048576 := bm (by omega) (by omega)
  have iA : i64 (g * m * w * 1048576) := ⟨by omega, by omega⟩
  have s1 := wr_sz (i64_wr iA)
  have k4 := h.aa
  have wAA : wr (g * m * w * 1048576 * (g * m * w * 1048576)) := ⟨Int.le_trans (by decide) k4.1, Int.lt_of_le_of_lt k4.2 (by decide)⟩
  have s2 := wr_sz wAA
  repeat' (first | apply gwS | simp only [wN, wM, Nat.reduceAdd, Nat.reduceMul] | ((first | refine gwR [22] ?_ | refine gwD [22] ?_); intro Q hQ hP; simp [hC, hY, hq0, hq1, b1, b2, b3, i0, z0, iA, s1, s2]; (repeat ((first | (refine heapK_slA (ewi1_t hw1) (by simp) rfl (by simp) (by simp) ?_) | (refine heapK_slA (ewi2_t hw2) (by simp) rfl (by simp) (by simp) ?_)); try simp [hC, hY, hq0, hq1, b1, b2, b3, i0, z0, iA, s1, s2])); (first | refine hQ _ _ _ _ (by kernel_rfl) ?_ | refine hP _ _ (by kernel_rfl) fun _ => ?_); clear hQ hP Q) | apply gwB | apply gwT | apply gwK | apply gwE | apply gwG | apply gwL | simp only [blockG_exit] | (refine gwC ?_ ?_ <;> (intro hb; first | (cases hb; done) | skip)))
  refine GW_scope' 0 (fun m s => s = ⟨tsL [(10, .int .i64 30)], hpL G0 [], 1000, 0⟩) rfl ?_ ?_
  · rintro m _ rfl
    repeat' (first | apply gwS | simp only [wN, wM, Nat.reduceAdd, Nat.reduceMul] | ((first | refine gwR [] ?_ | refine gwD [] ?_); intro Q hQ hP; simp [hC, hY]; (first | refine hQ _ _ _ _ (by kernel_rfl) ?_ | refine hP _ _ (by kernel_rfl) fun _ => ?_); clear hQ hP Q) | apply gwB | apply gwT | apply gwK | apply gwE | apply gwG | apply gwL | simp only [blockG_exit] | (refine gwC ?_ ?_ <;> (intro hb; first | (cases hb; done) | skip)))
    refine ⟨.inr trivial, ?_⟩
    simp [Tryd.results7]
  · intro _
    repeat' (first | apply gwS | simp only [wN, wM, Nat.reduceAdd, Nat.reduceMul] | ((first | refine gwR [22] ?_ | refine gwD [22] ?_); intro Q hQ hP; simp [hC, hY, hq0, hq1, b1, b2, b3, i0, z0, iA, s1, s2]; (repeat ((first | (refine heapK_slA (ewi1_t hw1) (by simp) rfl (by simp) (by simp) ?_) | (refine heapK_slA (ewi2_t hw2) (by simp) rfl (by simp) (by simp) ?_)); try simp [hC, hY, hq0, hq1, b1, b2, b3, i0, z0, iA, s1, s2])); (first | refine hQ _ _ _ _ (by kernel_rfl) ?_ | refine hP _ _ (by kernel_rfl) fun _ => ?_); clear hQ hP Q) | apply gwB | apply gwT | apply gwK | apply gwE | apply gwG | apply gwL | simp only [blockG_exit] | (refine gwC ?_ ?_ <;> (intro hb; first | (cases hb; done) | skip)))
    refine ⟨rfl, _, 0, weakL _ 1000 hC G0F (m0 := []) hC0 (by omega) ?_ ?_ ?_, rfl⟩
    · simp [idsV, idsA, idsF, ids0, dom]
    · simp [ids_lit, idsF, ids0, dom]
    · simp
theorem epair_bad {g m w q : Int} (h : ¬ EIn g m w q) : Ret Tryd.prog G0 7 #[.int .i64 g, .int .i64 m, .int .i64 w, .int .i64 q] (.tuple #[.int .i64 0, .int .i64 0, .int .i64 2]) := by
  by_cases h1 : (1 ≤ g ∧ g ≤ 1048576)
  · by_cases h2 : (1 ≤ m ∧ m ≤ 1024) ∧ (1 ≤ w ∧ w ≤ 1024)
    · by_cases h3 : q < 0
      · exact epair_b3 h1 h2 h3
      · by_cases h4 : 13194139533312 < q
        · exact epair_b4 h1 h2 h3 h4
        · exact absurd ⟨h1.1, h1.2, h2.1.1, h2.1.2, h2.2.1, h2.2.2, by omega, by omega⟩ h
    · exact epair_b2 h1 h2
  · exact epair_b1 h1
theorem wakes22_of (h : Ret Tryd.prog G0 6 #[] (.bool true)) (K : Value → Prop) : callK Tryd.prog G0 6 #[] K ↔ K (.bool true) := callK_iff G0W (by kernel_rfl) h
theorem epair_at {g m w q a b : Int} (h : EIn g m w q) (hq : 0 < q) (e1 : enLo g m w q = a) (e2 : enHi g m w q = b) (K : Value → Prop) : callK Tryd.prog G0 7 #[.int .i64 g, .int .i64 m, .int .i64 w, .int .i64 q] K ↔ K (.tuple #[.int .i64 a, .int .i64 b, .int .i64 0]) := by
  subst e1 e2
  exact callK_iff G0W (by kernel_rfl) (epair_ok h hq)
theorem eplus_ret (a n : Int) (hi : i64 n) : Ret Tryd.prog G0 54 #[wd a, .int .i64 n] (wd (a + n)) := by
  refine ret_of G0F Tryd.func54 rfl Tryd.call54 (by simp) (by simp) (by simp [Tryd.ntmps54]) ?_
  intro C hC hC0 hY
  repeat' (first | apply gwS | simp only [wN, wM, Nat.reduceAdd, Nat.reduceMul] | ((first | refine gwR [] ?_ | refine gwD [] ?_); intro Q hQ hP; simp [hC, hY, hi]; (first | refine hQ _ _ _ _ (by kernel_rfl) ?_ | refine hP _ _ (by kernel_rfl) fun _ => ?_); clear hQ hP Q) | apply gwB | apply gwT | apply gwK | apply gwE | apply gwG | apply gwL | simp only [blockG_exit] | (refine gwC ?_ ?_ <;> (intro hb; first | (cases hb; done) | skip)))
  refine ⟨.inr trivial, ?_⟩
  simp [Tryd.results54]
@[simp] theorem eplus (a n : Int) (hi : i64 n) (K : Value → Prop) : callK Tryd.prog G0 54 #[Value.agg #[.int .u64 (wi (a) 0), .int .u64 (wi (a) 1), .int .u64 (wi (a) 2), .int .u64 (wi (a) 3)], .int .i64 n] K ↔ K (wd (a + n)) := callK_iff G0W (by kernel_rfl) (eplus_ret a n hi)
def spV (lo hi : Int) : Value := .agg #[.int .u64 (wi lo 0), .int .u64 (wi lo 1), .int .u64 (wi lo 2), .int .u64 (wi lo 3), .int .u64 (wi hi 0), .int .u64 (wi hi 1), .int .u64 (wi hi 2), .int .u64 (wi hi 3)]
@[simp] theorem spV_flat (lo hi : Int) : flatV (spV lo hi) = true := by simp [spV]
def holdB (lo hi a : Int) : Bool := decide (cmpI (sz lo) (sz a) ≤ 0) && decide (cmpI (sz a) (sz hi) ≤ 0)
theorem eholds_ret (lo hi a : Int) : Ret Tryd.prog G0 21 #[spV lo hi, wd a] (.bool (holdB lo hi a)) := by
  refine ret_of G0F Tryd.func21 rfl Tryd.call21 rfl (by simp) (by simp [Tryd.ntmps21]) ?_
  intro C hC hC0 hY
  unfold spV holdB
  by_cases h1 : cmpI (sz lo) (sz a) ≤ 0
  · rw [decide_eq_true h1]
    repeat' (first | apply gwS | simp only [wN, wM, Nat.reduceAdd, Nat.reduceMul] | ((first | refine gwR [] ?_ | refine gwD [] ?_); intro Q hQ hP; simp [hC, hY, h1]; (first | refine hQ _ _ _ _ (by kernel_rfl) ?_ | refine hP _ _ (by kernel_rfl) fun _ => ?_); clear hQ hP Q) | apply gwB | apply gwT | apply gwK | apply gwE | apply gwG | apply gwL | simp only [blockG_exit] | (refine gwC ?_ ?_ <;> (intro hb; first | (cases hb; done) | skip)))
    refine ⟨.inr trivial, ?_⟩
    simp [Tryd.results21]
  · rw [decide_eq_false h1]
    repeat' (first | apply gwS | simp only [wN, wM, Nat.reduceAdd, Nat.reduceMul] | ((first | refine gwR [] ?_ | refine gwD [] ?_); intro Q hQ hP; simp [hC, hY, h1]; (first | refine hQ _ _ _ _ (by kernel_rfl) ?_ | refine hP _ _ (by kernel_rfl) fun _ => ?_); clear hQ hP Q) | apply gwB | apply gwT | apply gwK | apply gwE | apply gwG | apply gwL | simp only [blockG_exit] | (refine gwC ?_ ?_ <;> (intro hb; first | (cases hb; done) | skip)))
    refine ⟨.inr trivial, ?_⟩
    simp [Tryd.results21]
theorem ewidth_small (lo hi : Int) (hl : wr lo) (hh : wr hi) (h0 : lo ≤ hi) (h1 : i64 (hi - lo)) : Ret Tryd.prog G0 19 #[spV lo hi] (.tuple #[.int .i64 (hi - lo), .bool true]) := by
  refine ret_of G0F Tryd.func19 rfl Tryd.call19 (by simp) (by simp) (by simp [Tryd.ntmps19]) ?_
  intro C hC hC0 hY
  have w := i64_wr h1
  have s1 := wr_sz w
  have g1 := wr_ng hl
  have g2 := wr_ng hh
  have g3 := ng_f w (by omega)
  have n0 : 0 ≤ hi - lo := by omega
  have n1 : lo ≤ hi := h0
  have hov : (!decide (hi < 0) != decide (lo < 0) || !decide (hi < 0)) = true := by
    by_cases a : hi < 0
    · have b : lo < 0 := by omega
      simp [a, b]
    · simp [a]
  unfold spV
  repeat' (first | apply gwS | simp only [wN, wM, Nat.reduceAdd, Nat.reduceMul] | ((first | refine gwR [] ?_ | refine gwD [] ?_); intro Q hQ hP; simp [hC, hY, h1, s1, g1, g2, g3, n0, n1, hov]; (first | refine hQ _ _ _ _ (by kernel_rfl) ?_ | refine hP _ _ (by kernel_rfl) fun _ => ?_); clear hQ hP Q) | apply gwB | apply gwT | apply gwK | apply gwE | apply gwG | apply gwL | simp only [blockG_exit] | (refine gwC ?_ ?_ <;> (intro hb; first | (cases hb; done) | skip)))
  refine ⟨.inr trivial, ?_⟩
  simp [Tryd.results19]
end Go.Gy
namespace Go.Gy
set_option linter.unusedSimpArgs false
set_option linter.unusedVariables false
open Go Go.RowKit
section
variable {P : Program} {C : Ctx} {n : Nat} {d : List Deferred} {ro : Option Nat} {s : GS} {K : Exit → GS → Prop}
theorem GI.freeze {r : Nat → Nat} {a : Act} {W : World} {k t : Nat} {cs : Array Value} (hk : s.hp k = some ⟨cs, .ty t⟩) (h100 : 100 ≤ k) (h : GI P C n d r s a W) : GI P C n d r ⟨s.ts, upd s.hp k (some ⟨cs.map (renF r), .raw t (0, 0)⟩), s.B, s.yc⟩ a W := by
  have hD : dom (upd s.hp k (some ⟨cs.map (renF r), .raw t (0, 0)⟩)) = dom s.hp := by
    funext q
    unfold dom
    by_cases e : q = k
    · subst e
      rw [upd_same, hk]
      simp
    · rw [upd_other _ _ e]
  have hkB : ¬ s.B ≤ k := fun hb => by have := h.free k hb; rw [hk] at this; cases this
  refine ⟨⟨h.ri.size, ?_, fun q b hq => ?_, ?_, ?_, fun i hi => ?_, fun q hq => ?_, fun q hq hd => ?_⟩, fun x hx => ?_, h.low, h.flat, h.rounds⟩
  · show Rel r (dom (upd s.hp k _)) s.ts a
    rw [hD]
    exact h.ri.rel
  · show W.heap[r q]? = some (b.obj r) ∧ b.ids (dom (upd s.hp k _))
    rw [hD]
    by_cases e : q = k
    · subst e
      have hq' : some (Blk.mk (cs.map (renF r)) (.raw t (0, 0))) = some b := (upd_same _ _ _).symm.trans hq
      cases hq'
      exact ⟨(h.ri.sat q _ hk).1, trivial⟩
    · have hq' : s.hp q = some b := (upd_other _ _ e).symm.trans hq
      exact h.ri.sat q b hq'
  · show Inj r (dom (upd s.hp k _))
    rw [hD]
    exact h.ri.inj
  · obtain ⟨S, ms, h1, h2, h3, h4⟩ := h.ri.ext
    refine ⟨S, ms, h1, h2, fun i hi => ?_, h4⟩
    have hi' : dom (upd s.hp k (some ⟨cs.map (renF r), .raw t (0, 0)⟩)) i := hi
    rw [hD] at hi'
    exact h3 i hi'
  · show dom (upd s.hp k _) i ∧ _
    rw [hD]
    exact h.ri.keep i hi
  · show upd s.hp k _ q = _
    rw [upd_other _ _ (by omega)]
    exact h.ri.glob q hq
  · have hd' : dom (upd s.hp k (some ⟨cs.map (renF r), .raw t (0, 0)⟩)) q := hd
    rw [hD] at hd'
    exact h.ri.low q hq hd'
  · show upd s.hp k _ x = none
    have hx' : s.B ≤ x := hx
    rw [upd_other _ _ (by omega)]
    exact h.free x hx'
theorem GW_freeze {c : Code} (k : Nat) {t : Nat} {cs : Array Value} (hk : s.hp k = some ⟨cs, .ty t⟩) (h100 : 100 ≤ k) (h : ∀ cs' : Array Value, cs'.size = cs.size → (∀ (j : Nat) (v : Value), cs[j]? = some v → flatF v = true → cs'[j]? = some v) → GW P C n d ro c ⟨s.ts, upd s.hp k (some ⟨cs', .raw t (0, 0)⟩), s.B, s.yc⟩ K) : GW P C n d ro c s K := fun r a W hi =>
  h (cs.map (renF r)) (by simp) (fun j v hj hf => by simp [hj, flatF_ren hf]) r a W (hi.freeze hk h100)
end
end Go.Gy
namespace Go.Gy
set_option linter.unusedSimpArgs false
set_option linter.unusedVariables false
open Go Go.RowKit Go.Proofs
def potE (n n2 : Nat) (okc rt : Bool) (fs : Nat → Int) : Int := if fitB n n2 okc rt = true then (if potZ fs n2 = 0 then 0 else 30) else 2
set_option maxRecDepth 8000 in
set_option maxHeartbeats 4000000 in
theorem epot_bad (L : List (Nat × Blk)) (ks : Nat) (bm bs : Blk) (hT : LTwo G0 L ks bm bs) (off n cap off2 n2 cap2 : Nat) (fm fs : Nat → Int) (hm : MB bm off n fm) (hSb : SB bs off2 n2 fs) (g bx tp nr md st : Int) (hs : i64 st)
    (hf : fitB n n2 (cfOk n fm g bx tp nr md) (rightB st fs n2) = false) :
    Fun Tryd.prog G0 34 #[cfV (.slice (some ⟨100, off, none⟩) n cap) g bx tp nr md, .agg #[.int .i64 st, .slice (some ⟨ks, off2, none⟩) n2 cap2]] (hpL G0 L) (keys L) (.ret (.tuple #[spV 0 0, .int .i64 2]) []) := by
  refine fun_ofL (B := 200) G0F Tryd.func34 rfl Tryd.call34 hT.ok ?_ (flatV_ids (by simp [spV])) (by simp) (by simp) (by simp [Tryd.ntmps34]) (by omega) ?_
  · simp [idsV, idsA, idsF, ids0, hT.ia, hT.ib, cfV]
  intro C hC hC0 hY
  have hA := hT.a
  have hS := hT.s
  have hne := hT.ne
  have hLow := hT.low
  have hks := hT.k1
  have hks2 := hT.k2
  have hfit := kFits_L L ks bm bs hT off n cap off2 n2 cap2 fm fs hm hSb g bx tp nr md st hs
  rw [hf] at hfit
  unfold cfV at hfit ⊢
  repeat' (first | apply gwS | simp only [wN, wM, Nat.reduceAdd, Nat.reduceMul] | ((first | refine gwR [38] ?_ | refine gwD [38] ?_); intro Q hQ hP; simp [hC, hY, hA, hS, hne, wi_zero]; (repeat ((first | (refine heapK_L hfit hT.ok (by (intro p hp; have hpb := hT.ok.big p hp; (try dsimp only); simp (disch := omega) only [addB, upd_other, hpL_cons, hpL_nil, if_neg, updL, List.cons_append, List.nil_append]; first | exact hT.mem p hp | exact cL p hp)) ?_)); try simp [hC, hY, hA, hS, hne, wi_zero])); (first | refine hQ _ _ _ _ (by kernel_rfl) ?_ | refine hP _ _ (by kernel_rfl) fun _ => ?_); clear hQ hP Q) | apply gwB | apply gwT | apply gwK | apply gwE | apply gwG | apply gwL | simp only [blockG_exit] | (refine gwC ?_ ?_ <;> (intro hb; first | (cases hb; done) | skip)))
  refine ⟨.inr rfl, by simp [Tryd.results34, wi_zero, spV], keep_of G0F (by (intro p hp; have hpb := hT.ok.big p hp; first | rfl | (simp (disch := omega) only [addB, upd_other, hpL_cons, hpL_nil, if_neg, updL, List.cons_append, List.nil_append] <;> done))) (by (intro k hk; first | exact hLow k hk | (simp (disch := omega) only [hLow, addB, List.mem_cons, List.not_mem_nil, or_false, upd_other, hpL_cons, hpL_nil, if_neg, updL, List.cons_append, List.nil_append] <;> done)))⟩
def ezB (cq : Array Value) : Blk := ⟨cq, .raw 36 (0, 0)⟩
theorem ezB_rn {cq : Array Value} {ρ : Nat → Nat} : (ezB cq).rn ρ = ezB cq := rfl
theorem ezB_ids {cq : Array Value} {D : Nat → Prop} : (ezB cq).ids D := trivial
theorem ez_ld {cq : Array Value} {g : Int} (h1 : cq[1]? = some (.int .i64 g)) : loadK Tryd.prog 3 ⟨cq, .raw 36 (0, 0)⟩ 1 = some (.int .i64 g) := by
  unfold loadK
  simp [h1, flatV, flatF, flat0]
def spB (lo hi : Int) : Blk := ⟨#[.int .u64 (wi lo 0), .int .u64 (wi lo 1), .int .u64 (wi lo 2), .int .u64 (wi lo 3), .int .u64 (wi hi 0), .int .u64 (wi hi 1), .int .u64 (wi hi 2), .int .u64 (wi hi 3)], .ty 48⟩
def epTs : List (Nat × Value) := [(2, .pointer (some ⟨200, 0, none⟩)), (4, .pointer (some ⟨216, 0, none⟩)), (5, .pointer (some ⟨224, 0, none⟩))]
def epM (cq : Array Value) (lo hi : Int) : List (Nat × Blk) := [(200, ezB cq), (216, spB lo hi), (224, ⟨#[.int .i64 0], .ty 23⟩)]
def epI (cq : Array Value) (F H : Nat → Nat → Int) (l : List (Nat × Nat)) (j : Nat) (h : Hp) : Prop := h = hpL G0 (epM cq (pS F (l.take j)) (pS H (l.take j)))
def epr (k : Nat) : Nat := if k = 200 then 280 else if k = 208 then 281 else k
theorem eIn {asd : List Nat} {f g : Hp} {k : Nat} (h : k ∈ asd) : addB asd f g k = f k := if_pos h
theorem eNi {asd : List Nat} {f g : Hp} {k : Nat} (h : k ∉ asd) : addB asd f g k = g k := if_neg h
theorem eOut {G : Hp} : ∀ {L : List (Nat × Blk)} {k : Nat}, k ∉ keys L → hpL G L k = G k
  | [], _, _ => rfl
  | (q, c) :: L, k, h => by
    simp only [keys, List.map_cons, List.mem_cons, not_or] at h
    rw [hpL_cons, if_neg h.1]
    exact eOut h.2
theorem eAsd {L : List (Nat × Blk)} (hL : LOk L 200) : (fun k => if k ∈ 280 :: 281 :: keys L then none else hpL G0 L k) = hpL G0 [] := by
  funext k
  simp only [hpL_nil]
  split
  · rename_i hm
    rcases List.mem_cons.1 hm with rfl | hm
    · exact (G0_big _ (by omega)).symm
    · rcases List.mem_cons.1 hm with rfl | hm
      · exact (G0_big _ (by omega)).symm
      · obtain ⟨p, hp, rfl⟩ := mem_keys.1 hm
        exact (G0_big _ (hL.big p hp).1).symm
  · rename_i hm
    exact eOut fun h => hm (List.mem_cons_of_mem _ (List.mem_cons_of_mem _ h))
theorem epr_id {k : Nat} (h : k < 200) : epr k = k := by unfold epr; rw [if_neg (by omega), if_neg (by omega)]
set_option maxRecDepth 8000 in
set_option maxHeartbeats 4000000 in
theorem epot_fit (L : List (Nat × Blk)) (ks : Nat) (bm bs : Blk) (hT : LTwo G0 L ks bm bs) (off n cap off2 cap2 : Nat) (fm fs : Nat → Int) (hm : MB bm off n fm) (hSb : SB bs off2 n fs) (hcap2 : n ≤ cap2) (g bx tp nr md st : Int) (hs : i64 st)
    (hok : cfOk n fm g bx tp nr md = true) (hrt : rightB st fs n = true) (hz : potZ fs n = 0) :
    Fun Tryd.prog G0 34 #[cfV (.slice (some ⟨100, off, none⟩) n cap) g bx tp nr md, .agg #[.int .i64 st, .slice (some ⟨ks, off2, none⟩) n cap2]] (hpL G0 L) (keys L) (.ret (.tuple #[spV (potLo g fm fs n) (potHi g fm fs n), .int .i64 0]) []) := by
  refine fun_ofL (B := 200) G0F Tryd.func34 rfl Tryd.call34 hT.ok ?_ (flatV_ids (by simp [spV])) (by simp) (by simp) (by simp [Tryd.ntmps34]) (by omega) ?_
  · simp [idsV, idsA, idsF, ids0, hT.ia, hT.ib, cfV]
  intro C hC hC0 hY
  have hA := hT.a
  have hS := hT.s
  have hne := hT.ne
  have hLow := hT.low
  have hks := hT.k1
  have hks2 := hT.k2
  have hfit := kFits_L L ks bm bs hT off n cap off2 n cap2 fm fs hm hSb g bx tp nr md st hs
  rw [fitB_iff.2 ⟨rfl, hok, hrt⟩] at hfit
  have hn4 := (right_n hrt).2.1
  have hpr := epairs_at 280 (by omega) L ks bm bs hT off n cap off2 n cap2 g bx tp nr md st
  unfold cfV at hfit hpr ⊢
  repeat' (first | apply gwS | simp only [wN, wM, Nat.reduceAdd, Nat.reduceMul] | ((first | refine gwR [38] ?_ | refine gwD [38] ?_); intro Q hQ hP; simp [hC, hY, hA, hS, hne, wi_zero]; (repeat ((first | (refine heapK_L hfit hT.ok (by (intro p hp; have hpb := hT.ok.big p hp; (try dsimp only); simp (disch := omega) only [addB, upd_other, hpL_cons, hpL_nil, if_neg, updL, List.cons_append, List.nil_append]; first | exact hT.mem p hp | exact cL p hp)) ?_)); try simp [hC, hY, hA, hS, hne, wi_zero])); (first | refine hQ _ _ _ _ (by kernel_rfl) ?_ | refine hP _ _ (by kernel_rfl) fun _ => ?_); clear hQ hP Q) | apply gwB | apply gwT | apply gwK | apply gwE | apply gwG | apply gwL | simp only [blockG_exit] | (refine gwC ?_ ?_ <;> (intro hb; first | (cases hb; done) | skip)))
  refine GW_list ?_
  simp only [Array.toList]
  refine GL_walk 2 [] rfl (by simp) (by kernel_rfl) ?_; intro q hq; simp [hC, hY, hA, hS, hne]; refine hq _ _ _ _ ?_; clear hq q
  simp only [wT, List.length_cons, List.length_nil, Nat.reduceAdd]
  refine GL_callL (f := .func 53) (cap := #[]) hC hpr rfl (by simp) rfl rfl (by simp [okT]) (by simp [gev]) (by simp) (by simp [okX, junk]) (by simp [gev]) (by intro q hq; obtain ⟨p, hp, rfl⟩ := mem_keys.1 hq; have hpb := hT.ok.big p hp; (try dsimp only); simp (disch := omega) only [upd_other]) (by (intro k hk; first | exact hLow k hk | (simp (disch := omega) only [hLow, addB, List.mem_cons, List.not_mem_nil, or_false, upd_other, hpL_cons, hpL_nil, if_neg, updL, List.cons_append, List.nil_append] <;> done))) (fun v ns hV k hk => by have := epairsR_key hV k hk; simp; omega) ?_
  rintro v ns ⟨rfl, rfl⟩
  refine GL_nil ?_
  repeat' (first | apply gwS | simp only [wN, wM, Nat.reduceAdd, Nat.reduceMul] | ((first | refine gwR [] ?_ | refine gwD [] ?_); intro Q hQ hP; simp [hC, hY, putT, updL, hA, hS, hne]; (first | refine hQ _ _ _ _ (by kernel_rfl) ?_ | refine hP _ _ (by kernel_rfl) fun _ => ?_); clear hQ hP Q) | apply gwB | apply gwT | apply gwK | apply gwE | apply gwG | apply gwL | simp only [blockG_exit] | (refine gwC ?_ ?_ <;> (intro hb; first | (cases hb; done) | skip)))
  simp only [putT, updL]
  refine GW_freeze 200 (t := 36) (cs := #[.slice (some ⟨100, off, none⟩) n cap, .int .i64 g, .int .i64 bx, .int .i64 tp, .int .i64 nr, .int .i64 md]) (by simp [cfB]) (by omega) ?_
  intro cq hq1 hq2
  have hq4 : cq[1]? = some (.int .i64 g) := hq2 1 _ rfl rfl
  have hq6 : cq.size = 6 := hq1
  have hidL : ∀ k ∈ keys L, epr k = k := fun k hk => by
    obtain ⟨p, hp, rfl⟩ := mem_keys.1 hk
    exact epr_id (hT.ok.big p hp).2
  have hout : ∀ k, 200 ≤ k → k ≠ 280 → k ≠ 281 → (k ∈ 280 :: 281 :: keys L) = False := fun k h1 h2 h3 => eq_false fun hm => by
    rcases List.mem_cons.1 hm with e | hm
    · exact h2 e
    · rcases List.mem_cons.1 hm with e | hm
      · exact h3 e
      · obtain ⟨p, hp, rfl⟩ := mem_keys.1 hm
        have := (hT.ok.big p hp).2
        omega
  have hasd : ∀ C0 : Ctx, (C0.hp0 = fun k => if k ∈ 280 :: 281 :: keys L then none else C.hp0 k) → C0.hp0 = hpL G0 [] := fun C0 h0 => by
    rw [h0, hC0]
    exact eAsd hT.ok
  refine GW_rangeK (f := 70) (rs := 280 :: 281 :: keys L) (xs := (epIx n).map fun p => epV fm fs p.1 p.2) (caps := #[.pointer (some ⟨281, 0, none⟩), .pointer (some ⟨280, 0, none⟩)]) (280 :: 281 :: keys L) hY (by simp) ?_ ?_ (by simp [Tryd.ntmps34]) (tsL epTs) (tsL epTs) (epI cq (fun i k => enLo g (fm i) (fm k) (esqF fs i k)) (fun i k => enHi g (fm i) (fm k) (esqF fs i k)) (epIx n)) (hpS := hpL G0 (epM cq 0 0)) 300 (epIx n).length (by simp) (fun k hk => hk) ?_ ?_ ?_ ?_ ?_ (fun _ => .inl rfl) ?_ ?_
  · rw [hC]
    refine iterk_mv (epairs_it L ks bm bs hT off n cap off2 cap2 fm fs hm hSb hcap2 hn4 g bx tp nr md st) G0F (enM_ok hT off n cap off2 n cap2 g bx tp nr md st) epr (fun k hk => epr_id (by omega)) (by simp [ren0, epr]) ?_ (by (intro k hk; first | exact hLow k hk | (simp (disch := omega) only [hLow, addB, List.mem_cons, List.not_mem_nil, or_false, upd_other, hpL_cons, hpL_nil, if_neg, updL, List.cons_append, List.nil_append] <;> done))) ?_ ?_
    · show epr 200 :: epr 208 :: (keys L).map epr = _
      rw [List.map_congr_left hidL]
      simp [epr]
    · intro p hp
      rcases List.mem_cons.1 hp with rfl | hp
      · simp [epr, cfB, Blk.rn, renF, ren0, upd]
      · rcases List.mem_cons.1 hp with rfl | hp
        · have h3 : epr ks = ks := epr_id hks2
          simp [stB', Blk.rn, renF, ren0, upd, h3]
          simp [epr, upd]
        · have hpb := hT.ok.big p hp
          rw [epr_id hpb.2, Blk.fx_rn (hT.fx p hp)]
          refine ⟨hpb.1, ?_⟩
          (try dsimp only)
          simp (disch := omega) only [addB, upd_other, hpL_cons, hpL_nil, if_neg, updL]
          exact hT.mem p hp
    · have key : ∀ k ∈ keys (enM L ks off n cap off2 n cap2 g bx tp nr md st), (k = 200 ∧ epr k = 280) ∨ (k = 208 ∧ epr k = 281) ∨ (k < 200 ∧ epr k = k) := fun k hk => by
        rcases List.mem_cons.1 hk with rfl | hk
        · exact .inl ⟨rfl, rfl⟩
        · rcases List.mem_cons.1 hk with rfl | hk
          · exact .inr (.inl ⟨rfl, rfl⟩)
          · obtain ⟨p, hp, rfl⟩ := mem_keys.1 hk
            have := (hT.ok.big p hp).2
            exact .inr (.inr ⟨this, epr_id this⟩)
      intro k hk l hl e
      have := key k hk
      have := key l hl
      omega
  · intro x hx
    simp only [List.mem_map] at hx
    obtain ⟨p, _, rfl⟩ := hx
    simp [epV]
  · intro k hk
    rcases List.mem_cons.1 hk with rfl | hk
    · simp [dom, upd]
    · rcases List.mem_cons.1 hk with rfl | hk
      · simp [dom, upd]
      · obtain ⟨p, hp, rfl⟩ := mem_keys.1 hk
        have hpb := hT.ok.big p hp
        refine ⟨hpb.1, ?_⟩
        unfold dom
        dsimp only
        simp (disch := omega) only [addB, upd_other, hpL_cons, hpL_nil, if_neg, updL]
        rw [hT.mem p hp]
        simp
  · intro k hk b hb1
    rcases List.mem_cons.1 hk with rfl | hk
    · simp [upd] at hb1; subst hb1; simp [cfB, ids_lit, idsF, ids0, hT.ia]
    · rcases List.mem_cons.1 hk with rfl | hk
      · simp [upd] at hb1; subst hb1; simp [stB', ids_lit, idsF, ids0, hT.ib]
      · obtain ⟨p, hp, rfl⟩ := mem_keys.1 hk
        have hpb := hT.ok.big p hp
        dsimp only at hb1
        simp (disch := omega) only [addB, upd_other, hpL_cons, hpL_nil, if_neg, updL] at hb1
        rw [hT.mem p hp] at hb1
        simp only [Option.some.injEq] at hb1
        subst hb1
        exact Blk.fx_ids (hT.fx p hp) _
  · intro C0 h1 h2
    refine weakL _ 300 (h1.trans hC) G0F (m0 := []) (hasd C0 h2) (by omega) ?_ ?_ ?_
    · simp [epTs, epM, idsV, idsA, idsF, ids0, dom]
    · simp [epM, ezB_ids, spB, ids_lit, idsF, ids0, dom, upd, wi_zero]
      rfl
    · simp
  · simp [epI, pS]
  · intro k hk
    have h3 : k = 280 ∨ k = 281 ∨ (100 ≤ k ∧ k < 200) := by
      rcases List.mem_cons.1 hk with rfl | hk
      · exact .inl rfl
      · rcases List.mem_cons.1 hk with rfl | hk
        · exact .inr (.inl rfl)
        · obtain ⟨p, hp, rfl⟩ := mem_keys.1 hk
          exact .inr (.inr (hT.ok.big p hp))
    rw [eOut (fun hm => ?_)]
    · exact G0_big k (by omega)
    · simp [epM, keys] at hm
      omega
  · intro j x hq0 hj hx hI C1 lb hC1 hh1 hY1
    unfold epI at hI
    subst hI
    rw [List.getElem?_map, List.getElem?_eq_getElem hj] at hx
    simp only [Option.map_some, Option.some.injEq] at hx
    subst hx
    have t1 := pS_take (fun i k => enLo g (fm i) (fm k) (esqF fs i k)) hj
    have t2 := pS_take (fun i k => enHi g (fm i) (fm k) (esqF fs i k)) hj
    have hmem := List.getElem_mem hj
    unfold epI
    rw [t1, t2]
    clear t1 t2
    generalize (epIx n)[j] = p at *
    obtain ⟨hl1, hl2⟩ := epIx_lt hmem
    have hsq := esq_in hrt (i := p.1) (k := p.2) hl2 (by omega)
    have hz1 : ¬ esqF fs p.1 p.2 = 0 := fun e => by
      have := (sum2_zero (Z := fun i k => if esqF fs i k = 0 then 1 else 0) (fun i k => by by_cases c : esqF fs i k = 0 <;> simp [c]) n).1 hz p.1 p.2 hl1 hl2
      simp [e] at this
    have hg := cfOk_g hok
    have hm1 := cfOk_mass hok (i := p.1) hl2
    have hm2 := cfOk_mass hok (i := p.2) (by omega)
    have hEI : EIn g (fm p.1) (fm p.2) (esqF fs p.1 p.2) := ⟨hg.1, hg.2, hm1.1, hm1.2, hm2.1, hm2.2, hsq.1, hsq.2⟩
    have P := epair_at hEI (by omega) rfl rfl
    have hlo := hEI.lo (by omega)
    have hhi := hEI.hi (by omega)
    have hld := ez_ld hq4
    generalize pS (fun i k => enLo g (fm i) (fm k) (esqF fs i k)) ((epIx n).take j) = A at *
    generalize pS (fun i k => enHi g (fm i) (fm k) (esqF fs i k)) ((epIx n).take j) = H at *
    generalize enLo g (fm p.1) (fm p.2) (esqF fs p.1 p.2) = lo at *
    generalize enHi g (fm p.1) (fm p.2) (esqF fs p.1 p.2) = hi at *
    have il : i64 lo := ⟨by omega, by omega⟩
    have ih : i64 hi := ⟨by omega, by omega⟩
    have hCC := hC
    have hC1' : C1.G = G0 := hC1.trans hC
    unfold epV
    clear hC hY
    have hC := hC1'
    have hY := hY1
    unfold epM spB ezB
    repeat' (first | apply gwS | simp only [wN, wM, Nat.reduceAdd, Nat.reduceMul] | ((first | refine gwR [] ?_ | refine gwD [] ?_); intro Q hQ hP; simp [hC, hY, roundTs, epTs]; (first | refine hQ _ _ _ _ (by kernel_rfl) ?_ | refine hP _ _ (by kernel_rfl) fun _ => ?_); clear hQ hP Q) | apply gwB | apply gwT | apply gwK | apply gwE | apply gwG | apply gwL | simp only [blockG_exit] | (refine gwC ?_ ?_ <;> (intro hb; first | (cases hb; done) | skip)))
    intro C2 hC2 hh2 hY2
    clear hC hY
    have hC : C2.G = G0 := hC2.trans hCC
    have hY := hY2
    repeat' (first | apply gwS | simp only [wN, wM, Nat.reduceAdd, Nat.reduceMul] | ((first | refine gwR [] ?_ | refine gwD [] ?_); intro Q hQ hP; simp [hC, hY, P, hld, il, ih]; (first | refine hQ _ _ _ _ (by kernel_rfl) ?_ | refine hP _ _ (by kernel_rfl) fun _ => ?_); clear hQ hP Q) | apply gwB | apply gwT | apply gwK | apply gwE | apply gwG | apply gwL | simp only [blockG_exit] | (refine gwC ?_ ?_ <;> (intro hb; first | (cases hb; done) | skip)))
    refine ⟨fun k => k, hpL G0 (epM cq (A + lo) (H + hi)), fun C0 h1 h2 => weakRL _ _ 300 (h1.trans hCC) G0F (m0 := []) (hasd C0 h2) (by omega) ?_ ?_ ?_ ?_ ?_, rfl⟩
    · simp [epTs, epM, dom, junk, ren, renA, renF, ren0, idsV, idsA, idsF, ids0]
    · simp [epM, ezB_rn, ezB_ids, spB, Blk.rn, renF, ren0, ids_lit, idsF, ids0, dom]
      rfl
    · simp [epM]
    · intro k hk; rfl
    · simp
  · refine .inl ⟨by simp, ?_⟩
    rintro hq hI
    have hI' : hq = hpL G0 (epM cq (potLo g fm fs n) (potHi g fm fs n)) := by
      rw [hI, List.take_length]
      unfold potLo potHi
      rw [sum2_ep _ hn4, sum2_ep _ hn4]
    subst hI'
    refine ⟨fun k hk => ?_, ?_⟩
    · have h3 : k = 280 ∨ k = 281 ∨ (100 ≤ k ∧ k < 200) := by
        rcases List.mem_cons.1 hk with rfl | hk
        · exact .inl rfl
        · rcases List.mem_cons.1 hk with rfl | hk
          · exact .inr (.inl rfl)
          · obtain ⟨p, hp, rfl⟩ := mem_keys.1 hk
            exact .inr (.inr (hT.ok.big p hp))
      refine ⟨?_, by omega⟩
      rw [eOut (fun hm => ?_)]
      · exact G0_big k (by omega)
      · simp [epM, keys] at hm
        omega
    have hm16 := hout 216 (by omega) (by omega) (by omega)
    have hm24 := hout 224 (by omega) (by omega) (by omega)
    unfold epTs epM spB
    repeat' (first | apply gwS | simp only [wN, wM, Nat.reduceAdd, Nat.reduceMul] | ((first | refine gwR [] ?_ | refine gwD [] ?_); intro Q hQ hP; simp [hC, hY, addB, hm16, hm24]; (first | refine hQ _ _ _ _ (by kernel_rfl) ?_ | refine hP _ _ (by kernel_rfl) fun _ => ?_); clear hQ hP Q) | apply gwB | apply gwT | apply gwK | apply gwE | apply gwG | apply gwL | simp only [blockG_exit] | (refine gwC ?_ ?_ <;> (intro hb; first | (cases hb; done) | skip)))
    refine ⟨.inr rfl, by simp [Tryd.results34, spV, addB, hm16, hm24], keep_of G0F (fun p hp => by
        have hpb := hT.ok.big p hp
        have hm9 : p.1 ∈ 280 :: 281 :: keys L := List.mem_cons_of_mem _ (List.mem_cons_of_mem _ (mem_keys.2 ⟨p, hp, rfl⟩))
        simp (disch := omega) only [eIn hm9, upd_other, hpL_cons, hpL_nil, if_neg, updL]) (fun k hk => by
        have hm9 : k ∉ 280 :: 281 :: keys L := fun hm9 => by
          rcases List.mem_cons.1 hm9 with rfl | hm9
          · omega
          · rcases List.mem_cons.1 hm9 with rfl | hm9
            · omega
            · obtain ⟨p, hp, rfl⟩ := mem_keys.1 hm9
              have := (hT.ok.big p hp).1
              omega
        simp (disch := omega) only [eNi hm9, upd_other, hpL_cons, hpL_nil, if_neg, updL, hLow])⟩
theorem heapK_less (t a : Int) {b nk : Nat} {hp : Hp} {K : Eff → Prop} (hb : 100 ≤ b) (h1 : hp b = some (wb t)) (hK : K ((Res.ret (wd (t - a)) []).eff [b])) :
    heapK Tryd.prog G0 35 #[Value.agg #[.int .u64 (wi (a) 0), .int .u64 (wi (a) 1), .int .u64 (wi (a) 2), .int .u64 (wi (a) 3)], .pointer (some ⟨b, 0, none⟩)] hp nk K :=
  heapK_mv (eless_fun t a) G0F (B := 200) ⟨by simp, by simp [keys], by simp [wb, ids_lit, idsF, ids0]⟩ (fun k => if k = 100 then b else k) (fun k hk => if_neg (by omega)) (by simp [ren, renA, renF, ren0]) (by simp) (by simp [wb, Blk.rn, renF, ren0, hb, h1]) (by simp [keys]) (by simp [keys]) hK
set_option maxRecDepth 8000 in
set_option maxHeartbeats 4000000 in
theorem eEnergy_fit (L : List (Nat × Blk)) (ks : Nat) (bm bs : Blk) (hT : LTwo G0 L ks bm bs) (off n cap off2 cap2 : Nat) (fm fs : Nat → Int) (hm : MB bm off n fm) (hSb : SB bs off2 n fs) (hcap : n ≤ cap) (hcap2 : n ≤ cap2) (g bx tp nr md st : Int) (hs : i64 st)
    (hok : cfOk n fm g bx tp nr md = true) (hrt : rightB st fs n = true) (hz : potZ fs n = 0) :
    Fun Tryd.prog G0 15 #[cfV (.slice (some ⟨100, off, none⟩) n cap) g bx tp nr md, .agg #[.int .i64 st, .slice (some ⟨ks, off2, none⟩) n cap2]] (hpL G0 L) (keys L) (.ret (.tuple #[spV (kinV fm fs n - potHi g fm fs n) (kinV fm fs n - potLo g fm fs n), .int .i64 0]) []) := by
  refine fun_ofL (B := 200) G0F Tryd.func15 rfl Tryd.call15 hT.ok ?_ (flatV_ids (by simp [spV])) (by simp) (by simp) (by simp [Tryd.ntmps15]) (by omega) ?_
  · simp [idsV, idsA, idsF, ids0, hT.ia, hT.ib, cfV]
  intro C hC hC0 hY
  have hA := hT.a
  have hS := hT.s
  have hne := hT.ne
  have hLow := hT.low
  have hks := hT.k1
  have hks2 := hT.k2
  have hpo := epot_fit L ks bm bs hT off n cap off2 cap2 fm fs hm hSb hcap2 g bx tp nr md st hs hok hrt hz
  have hki := ekin_L L ks bm bs hT off n cap off2 n cap2 fm fs hm hSb hcap hcap2 g bx tp nr md st hs
  unfold kinW kinE at hki
  rw [fitB_iff.2 ⟨rfl, hok, hrt⟩, if_pos rfl, if_pos rfl] at hki
  unfold cfV spV at hpo
  unfold cfV at hki ⊢
  generalize kinV fm fs n = T at *
  generalize potLo g fm fs n = lo at *
  generalize potHi g fm fs n = hi at *
  repeat' (first | apply gwS | simp only [wN, wM, Nat.reduceAdd, Nat.reduceMul] | ((first | refine gwR [34, 18, 35] ?_ | refine gwD [34, 18, 35] ?_); intro Q hQ hP; simp [hC, hY, hA, hS, hne, wi_zero]; (repeat ((first | (refine heapK_L hpo hT.ok (by (intro p hp; have hpb := hT.ok.big p hp; (try dsimp only); simp (disch := omega) only [addB, upd_other, hpL_cons, hpL_nil, if_neg, updL, List.cons_append, List.nil_append]; first | exact hT.mem p hp | exact cL p hp)) ?_) | (refine heapK_L hki hT.ok (by (intro p hp; have hpb := hT.ok.big p hp; (try dsimp only); simp (disch := omega) only [addB, upd_other, hpL_cons, hpL_nil, if_neg, updL, List.cons_append, List.nil_append]; first | exact hT.mem p hp | exact cL p hp)) ?_) | (refine heapK_less T hi (by simp) ?_ ?_; focus (simp [wb]; done)) | (refine heapK_less T lo (by simp) ?_ ?_; focus (simp [wb]; done))); try simp [hC, hY, hA, hS, hne, wi_zero])); (first | refine hQ _ _ _ _ (by kernel_rfl) ?_ | refine hP _ _ (by kernel_rfl) fun _ => ?_); clear hQ hP Q) | apply gwB | apply gwT | apply gwK | apply gwE | apply gwG | apply gwL | simp only [blockG_exit] | (refine gwC ?_ ?_ <;> (intro hb; first | (cases hb; done) | skip)))
  refine ⟨.inr rfl, by simp [Tryd.results15, spV], keep_of G0F (by (intro p hp; have hpb := hT.ok.big p hp; first | rfl | (simp (disch := omega) only [addB, upd_other, hpL_cons, hpL_nil, if_neg, updL, List.cons_append, List.nil_append] <;> done))) (by (intro k hk; first | exact hLow k hk | (simp (disch := omega) only [hLow, addB, List.mem_cons, List.not_mem_nil, or_false, upd_other, hpL_cons, hpL_nil, if_neg, updL, List.cons_append, List.nil_append] <;> done)))⟩
def wkM : Blk := ⟨#[.int .i64 1, .int .i64 2], .ty 3⟩
def wkS : Blk := ⟨#[.int .i64 0, .int .i64 0, .int .i64 0, .int .i64 1, .int .i64 2, .int .i64 2, .int .i64 0, .int .i64 0, .int .i64 6, .int .i64 0, .int .i64 0, .int .i64 0], .ty 46⟩
def wkm (j : Nat) : Int := if j = 0 then 1 else 2
def wkb (j : Nat) : Int := if j = 3 then 1 else if j = 4 then 2 else if j = 5 then 2 else if j = 8 then 6 else 0
theorem wkM_fx : wkM.fx := fun x hx => by simp [wkM] at hx; rcases hx with rfl | rfl <;> rfl
theorem wkS_fx : wkS.fx := fun x hx => by simp [wkS] at hx; rcases hx with rfl | rfl | rfl | rfl | rfl | rfl <;> rfl
theorem wkM_mb : MB wkM 0 2 wkm := ⟨fun j hj => by
  have : j = 0 ∨ j = 1 := by omega
  rcases this with rfl | rfl <;> rfl, wkM_fx, fun j hj => by
  have : j = 0 ∨ j = 1 := by omega
  rcases this with rfl | rfl <;> decide, by omega⟩
theorem wkS_sb : SB wkS 0 2 wkb := ⟨fun j hj => by
  have : j = 0 ∨ j = 1 ∨ j = 2 ∨ j = 3 ∨ j = 4 ∨ j = 5 ∨ j = 6 ∨ j = 7 ∨ j = 8 ∨ j = 9 ∨ j = 10 ∨ j = 11 := by omega
  rcases this with rfl | rfl | rfl | rfl | rfl | rfl | rfl | rfl | rfl | rfl | rfl | rfl <;> rfl, wkS_fx, fun j hj => by
  have : j = 0 ∨ j = 1 ∨ j = 2 ∨ j = 3 ∨ j = 4 ∨ j = 5 ∨ j = 6 ∨ j = 7 ∨ j = 8 ∨ j = 9 ∨ j = 10 ∨ j = 11 := by omega
  rcases this with rfl | rfl | rfl | rfl | rfl | rfl | rfl | rfl | rfl | rfl | rfl | rfl <;> decide, by omega⟩
theorem wk_plo {N s r : Int} (h0 : 0 ≤ r) (h1 : r * r ≤ N / s) (h2 : N / s < (r + 1) * (r + 1)) : plo N s = r := by
  unfold plo
  exact isq_unique h0 h1 h2
theorem wk_1 : enLo 1 1 1 4 = 524288 ∧ enHi 1 1 1 4 = 524288 := by
  have e : enLo 1 1 1 4 = 524288 := wk_plo (by decide) (by decide) (by decide)
  refine ⟨e, ?_⟩
  rw [en_hi_eq, e]
  decide
theorem wk_2 : enLo 1 1 1 2 = 741455 ∧ enHi 1 1 1 2 = 741456 := by
  have e : enLo 1 1 1 2 = 741455 := wk_plo (by decide) (by decide) (by decide)
  refine ⟨e, ?_⟩
  rw [en_hi_eq, e]
  decide
theorem wk_3 : enLo 3 2 1 36 = 1048576 ∧ enHi 3 2 1 36 = 1048576 := by
  have e : enLo 3 2 1 36 = 1048576 := wk_plo (by decide) (by decide) (by decide)
  refine ⟨e, ?_⟩
  rw [en_hi_eq, e]
  decide
theorem wk_sq : esqF wkb 1 0 = 36 := by decide
theorem wk_lo : potLo 3 wkm wkb 2 = 1048576 := by
  unfold potLo
  simp only [sum2, sumN, wk_sq, show wkm 1 = 2 from rfl, show wkm 0 = 1 from rfl, wk_3.1]
  decide
theorem wk_hi : potHi 3 wkm wkb 2 = 1048576 := by
  unfold potHi
  simp only [sum2, sumN, wk_sq, show wkm 1 = 2 from rfl, show wkm 0 = 1 from rfl, wk_3.2]
  decide
theorem wk_z : potZ wkb 2 = 0 := by
  unfold potZ
  simp only [sum2, sumN, wk_sq]
  decide
theorem wk_k : kinV wkm wkb 2 = 4718592 := by decide
theorem wk_ok : cfOk 2 wkm 3 1000 1000 1 0 = true := by decide
theorem wk_rt : rightB 0 wkb 2 = true := by decide
theorem wkM_rn {ρ : Nat → Nat} : wkM.rn ρ = wkM := Blk.fx_rn wkM_fx ρ
theorem wkS_rn {ρ : Nat → Nat} : wkS.rn ρ = wkS := Blk.fx_rn wkS_fx ρ
theorem epair_zat {g m w : Int} (h : EIn g m w 0) (K : Value → Prop) : callK Tryd.prog G0 7 #[.int .i64 g, .int .i64 m, .int .i64 w, .int .i64 0] K ↔ K (.tuple #[.int .i64 0, .int .i64 0, .int .i64 30]) := callK_iff G0W (by kernel_rfl) (epair_z h rfl)
theorem epair_bat {g m w q : Int} (h : ¬ EIn g m w q) (K : Value → Prop) : callK Tryd.prog G0 7 #[.int .i64 g, .int .i64 m, .int .i64 w, .int .i64 q] K ↔ K (.tuple #[.int .i64 0, .int .i64 0, .int .i64 2]) := callK_iff G0W (by kernel_rfl) (epair_bad h)
theorem wk_w (K : Value → Prop) : callK Tryd.prog G0 19 #[spV 3670016 3670016] K ↔ K (.tuple #[.int .i64 0, .bool true]) := callK_iff G0W (by kernel_rfl) (ewidth_small 3670016 3670016 (i64_wr (by decide)) (i64_wr (by decide)) (by decide) (by decide))
theorem wk_h (K : Value → Prop) : callK Tryd.prog G0 21 #[spV 3670016 3670016, wd 3670016] K ↔ K (.bool true) := by
  have e : holdB 3670016 3670016 3670016 = true := by decide
  rw [← e]
  exact callK_iff G0W (by kernel_rfl) (eholds_ret 3670016 3670016 3670016)
theorem wk_n (K : Value → Prop) : callK Tryd.prog G0 21 #[spV 3670016 3670016, wd 0] K ↔ K (.bool false) := by
  have e : holdB 3670016 3670016 0 = false := by decide
  rw [← e]
  exact callK_iff G0W (by kernel_rfl) (eholds_ret 3670016 3670016 0)
set_option maxRecDepth 100000 in
set_option maxHeartbeats 4000000 in
theorem wakes22_ret : Ret Tryd.prog G0 6 #[] (.bool true) := by
  refine ret_of G0F Tryd.func6 rfl Tryd.call6 rfl (by simp) (by simp [Tryd.ntmps6]) ?_
  intro C hC hC0 hY
  have p1 := epair_at (g := 1) (m := 1) (w := 1) (q := 4) (by constructor <;> decide) (by decide) wk_1.1 wk_1.2
  have p2 := epair_at (g := 1) (m := 1) (w := 1) (q := 2) (by constructor <;> decide) (by decide) wk_2.1 wk_2.2
  have p3 := epair_zat (g := 1) (m := 1) (w := 1) (by constructor <;> decide)
  have p4 := epair_bat (g := 0) (m := 1) (w := 1) (q := 0) (fun h => absurd h.g0 (by decide))
  have hT := LTwo.two (G := G0) wkM_fx wkS_fx
  have hki := ekin_L _ _ wkM wkS hT 0 2 2 0 2 2 wkm wkb wkM_mb wkS_sb (by omega) (by omega) 3 1000 1000 1 0 0 (by decide)
  have hen := eEnergy_fit _ _ wkM wkS hT 0 2 2 0 2 wkm wkb wkM_mb wkS_sb (by omega) (by omega) 3 1000 1000 1 0 0 (by decide) wk_ok wk_rt wk_z
  unfold kinW kinE at hki
  rw [fitB_iff.2 ⟨rfl, wk_ok, wk_rt⟩, if_pos rfl, if_pos rfl, wk_k] at hki
  rw [wk_k, wk_lo, wk_hi] at hen
  unfold cfV spV at hen
  unfold cfV at hki
  have ww := wk_w
  have wh := wk_h
  have wn := wk_n
  unfold spV at ww wh wn
  unfold wd at wh wn
  simp only [wi_zero] at wn
  have o1 : i64 4718592 := by decide
  have o2 : i64 3670016 := by decide
  repeat' (first | apply gwS | simp only [wN, wM, Nat.reduceAdd, Nat.reduceMul] | ((first | refine gwR [18, 15] ?_ | refine gwD [18, 15] ?_); intro Q hQ hP; simp [hC, hY, p1, p2, p3, p4, wi_zero, ww, wh, wn, o1, o2]; (repeat ((first | (refine heapK_mv hki G0F hT.ok (fun k => if k = 100 then 464 else if k = 108 then 528 else k) (fun k hk => (if_neg (by omega)).trans (if_neg (by omega))) ?_ (by simp) (by simp [wkM_rn, wkS_rn]; simp [wkM, wkS]; kernel_rfl) (by simp [keys]) (by simp [keys]; rfl) ?_; focus (simp [ren, renA, renF, ren0]; done)) | (refine heapK_mv hen G0F hT.ok (fun k => if k = 100 then 464 else if k = 108 then 528 else k) (fun k hk => (if_neg (by omega)).trans (if_neg (by omega))) ?_ (by simp) (by simp [wkM_rn, wkS_rn]; simp [wkM, wkS]; kernel_rfl) (by simp [keys]) (by simp [keys]; rfl) ?_; focus (simp [ren, renA, renF, ren0]; done))); try simp [hC, hY, p1, p2, p3, p4, wi_zero, ww, wh, wn, o1, o2])); (first | refine hQ _ _ _ _ (by kernel_rfl) ?_ | refine hP _ _ (by kernel_rfl) fun _ => ?_); clear hQ hP Q) | apply gwB | apply gwT | apply gwK | apply gwE | apply gwG | apply gwL | simp only [blockG_exit] | (refine gwC ?_ ?_ <;> (intro hb; first | (cases hb; done) | skip)))
  refine ⟨.inr trivial, ?_⟩
  simp [Tryd.results6]
theorem w11_ret (n lo hi : Int) : Ret Tryd.prog G0 69 #[.int .i64 n, .int .i64 lo, .int .i64 hi] (.bool (wiB n lo hi)) := by
  refine ret_of G0F Tryd.func69 rfl Tryd.call69 rfl (by simp) (by simp [Tryd.ntmps69]) ?_
  intro C hC hC0 hY
  unfold wiB
  by_cases c0 : lo ≤ n
  · by_cases c1 : n ≤ hi
    · rw [decide_eq_true ⟨c0, c1⟩]
      (repeat' (first | apply gwS | simp only [wN, wM, Nat.reduceAdd, Nat.reduceMul] | ((first | refine gwR [] ?_ | refine gwD [] ?_); intro Q hQ hP; simp [hC, hY, c0, c1]; (first | refine hQ _ _ _ _ (by kernel_rfl) ?_ | refine hP _ _ (by kernel_rfl) fun _ => ?_); clear hQ hP Q) | apply gwB | apply gwT | apply gwK | apply gwE | apply gwG | apply gwL | simp only [blockG_exit] | (refine gwC ?_ ?_ <;> (intro hb; first | (cases hb; done) | skip))))
      refine ⟨.inr trivial, ?_⟩
      simp [Tryd.results69]
    · rw [decide_eq_false (by omega)]
      (repeat' (first | apply gwS | simp only [wN, wM, Nat.reduceAdd, Nat.reduceMul] | ((first | refine gwR [] ?_ | refine gwD [] ?_); intro Q hQ hP; simp [hC, hY, c0, c1]; (first | refine hQ _ _ _ _ (by kernel_rfl) ?_ | refine hP _ _ (by kernel_rfl) fun _ => ?_); clear hQ hP Q) | apply gwB | apply gwT | apply gwK | apply gwE | apply gwG | apply gwL | simp only [blockG_exit] | (refine gwC ?_ ?_ <;> (intro hb; first | (cases hb; done) | skip))))
      refine ⟨.inr trivial, ?_⟩
      simp [Tryd.results69]
  · rw [decide_eq_false (by omega)]
    (repeat' (first | apply gwS | simp only [wN, wM, Nat.reduceAdd, Nat.reduceMul] | ((first | refine gwR [] ?_ | refine gwD [] ?_); intro Q hQ hP; simp [hC, hY, c0]; (first | refine hQ _ _ _ _ (by kernel_rfl) ?_ | refine hP _ _ (by kernel_rfl) fun _ => ?_); clear hQ hP Q) | apply gwB | apply gwT | apply gwK | apply gwE | apply gwG | apply gwL | simp only [blockG_exit] | (refine gwC ?_ ?_ <;> (intro hb; first | (cases hb; done) | skip))))
    refine ⟨.inr trivial, ?_⟩
    simp [Tryd.results69]
@[simp] theorem w11 (n lo hi : Int) (K : Value → Prop) : callK Tryd.prog G0 69 #[.int .i64 n, .int .i64 lo, .int .i64 hi] K ↔ K (.bool (wiB n lo hi)) := callK_iff G0W (by kernel_rfl) (w11_ret n lo hi)
def whSt (b : Blk) (off n cap : Nat) (g bx tp nr md : Int) (i : Nat) : GS :=
  ⟨tsL [(1, .pointer (some ⟨200, 0, none⟩)), (3, .int .i64 i)], hpL G0 [(100, b), (200, cfB (.slice (some ⟨100, off, none⟩) n cap) g bx tp nr md)], 400, 0⟩
theorem allM_iff {f : Nat → Int} {n : Nat} : allM f n = true ↔ ∀ i, i < n → wiB (f i) 1 1024 = true := by simp [allM]
theorem why11_fun (b : Blk) (off n cap : Nat) (f : Nat → Int) (h : MB b off n f) (g bx tp nr md : Int) :
    Fun Tryd.prog G0 52 #[cfV (.slice (some ⟨100, off, none⟩) n cap) g bx tp nr md] (hpL G0 [(100, b)]) (keys [(100, b)]) (.ret (.string (whyS n f g bx tp nr md)) []) := by
  refine fun_ofL (B := 200) G0F Tryd.func52 rfl Tryd.call52 (oneL_ok h.fx) ?_ (by simp [idsV, idsA, idsF, ids0]) (by simp) (by simp) (by simp [Tryd.ntmps52]) (by omega) ?_
  · simp [idsV, idsA, idsF, ids0, keys, cfV]
  intro C hC hC0 hY
  have hid := fun D => Blk.fx_ids h.fx D
  unfold cfV
  cases h4 : wiB n 1 4 with
  | false =>
    have hw : whyS n f g bx tp nr md = ⟨#[98, 111, 100, 105, 101, 115]⟩ := by simp [whyS, h4]
    rw [hw]
    repeat' (first | apply gwS | simp only [wN, wM, Nat.reduceAdd, Nat.reduceMul] | ((first | refine gwR [] ?_ | refine gwD [] ?_); intro Q hQ hP; simp [hC, hY, h4]; (first | refine hQ _ _ _ _ (by kernel_rfl) ?_ | refine hP _ _ (by kernel_rfl) fun _ => ?_); clear hQ hP Q) | apply gwB | apply gwT | apply gwK | apply gwE | apply gwG | apply gwL | simp only [blockG_exit] | (refine gwC ?_ ?_ <;> (intro hb; first | (cases hb; done) | skip)))
    refine ⟨.inr rfl, by simp [Tryd.results52], keep_of G0F (by simp) (by (intro k hk; first | rfl | (simp (disch := omega) only [addB, List.mem_cons, List.not_mem_nil, or_false, upd_other, hpL_cons, hpL_nil, if_neg, updL] <;> done)))⟩
  | true =>
    obtain ⟨N, hN, hlt, hend⟩ := leadB (fun i => wiB (f i) 1 1024) n
    repeat' (first | apply gwS | simp only [wN, wM, Nat.reduceAdd, Nat.reduceMul] | ((first | refine gwR [] ?_ | refine gwD [] ?_); intro Q hQ hP; simp [hC, hY, h4]; (first | refine hQ _ _ _ _ (by kernel_rfl) ?_ | refine hP _ _ (by kernel_rfl) fun _ => ?_); clear hQ hP Q) | apply gwB | apply gwT | apply gwK | apply gwE | apply gwG | apply gwL | simp only [blockG_exit] | (refine gwC ?_ ?_ <;> (intro hb; first | (cases hb; done) | skip)))
    refine GW_for N (whSt b off n cap g bx tp nr md) ?_ ?_ ?_
    · refine weakL _ 400 hC G0F (m0 := [(100, b)]) hC0 (by omega) ?_ ?_ ?_
      · simp [idsV, idsA, idsF, ids0, dom]
      · simp [cfB, ids_lit, idsF, ids0, hid, dom]
      · simp
    · intro i hi
      have hi' : (i : Int) < n := by omega
      have hz : (0 : Int) ≤ i := by omega
      have hnn := h.nn
      have hs : Int.bmod ((i : Int) + 1) 18446744073709551616 = ((i + 1 : Nat) : Int) := by rw [bm (by omega) (by omega)]; rfl
      have hld := h.at (i := i) (by omega)
      have hw := hlt i hi
      unfold whSt cfB
      repeat' (first | apply gwS | simp only [wN, wM, Nat.reduceAdd, Nat.reduceMul] | ((first | refine gwR [] ?_ | refine gwD [] ?_); intro Q hQ hP; simp [hC, hY, hi', hz, hs, hld, hw]; (first | refine hQ _ _ _ _ (by kernel_rfl) ?_ | refine hP _ _ (by kernel_rfl) fun _ => ?_); clear hQ hP Q) | apply gwB | apply gwT | apply gwK | apply gwE | apply gwG | apply gwL | simp only [blockG_exit] | (refine gwC ?_ ?_ <;> (intro hb; first | (cases hb; done) | skip)))
      refine weakL _ 400 hC G0F (m0 := [(100, b)]) hC0 (by omega) ?_ ?_ ?_
      · simp [idsV, idsA, idsF, ids0, dom, hs]
      · simp [cfB, ids_lit, idsF, ids0, hid, dom]
      · simp
    · by_cases hNn : N = n
      · have hNs := hNn.symm
        subst hNs
        have hm : allM f n = true := allM_iff.2 hlt
        cases hg : wiB g 1 1048576 with
        | false =>
          have hw : whyS n f g bx tp nr md = ⟨#[99, 111, 110, 115, 116, 97, 110, 116]⟩ := by simp [whyS, h4, hm, hg]
          rw [hw]
          unfold whSt cfB
          repeat' (first | apply gwS | simp only [wN, wM, Nat.reduceAdd, Nat.reduceMul] | ((first | refine gwR [] ?_ | refine gwD [] ?_); intro Q hQ hP; simp [hC, hY, h4, hg]; (first | refine hQ _ _ _ _ (by kernel_rfl) ?_ | refine hP _ _ (by kernel_rfl) fun _ => ?_); clear hQ hP Q) | apply gwB | apply gwT | apply gwK | apply gwE | apply gwG | apply gwL | simp only [blockG_exit] | (refine gwC ?_ ?_ <;> (intro hb; first | (cases hb; done) | skip)))
          refine ⟨.inr rfl, by simp [Tryd.results52], keep_of G0F (by simp) (by (intro k hk; first | rfl | (simp (disch := omega) only [addB, List.mem_cons, List.not_mem_nil, or_false, upd_other, hpL_cons, hpL_nil, if_neg, updL] <;> done)))⟩
        | true =>
          cases hx : wiB bx 1 1048576 with
          | false =>
            have hw : whyS n f g bx tp nr md = ⟨#[98, 111, 120]⟩ := by simp [whyS, h4, hm, hg, hx]
            rw [hw]
            unfold whSt cfB
            repeat' (first | apply gwS | simp only [wN, wM, Nat.reduceAdd, Nat.reduceMul] | ((first | refine gwR [] ?_ | refine gwD [] ?_); intro Q hQ hP; simp [hC, hY, h4, hg, hx]; (first | refine hQ _ _ _ _ (by kernel_rfl) ?_ | refine hP _ _ (by kernel_rfl) fun _ => ?_); clear hQ hP Q) | apply gwB | apply gwT | apply gwK | apply gwE | apply gwG | apply gwL | simp only [blockG_exit] | (refine gwC ?_ ?_ <;> (intro hb; first | (cases hb; done) | skip)))
            refine ⟨.inr rfl, by simp [Tryd.results52], keep_of G0F (by simp) (by (intro k hk; first | rfl | (simp (disch := omega) only [addB, List.mem_cons, List.not_mem_nil, or_false, upd_other, hpL_cons, hpL_nil, if_neg, updL] <;> done)))⟩
          | true =>
            cases ht : wiB tp 1 65536 with
            | false =>
              have hw : whyS n f g bx tp nr md = ⟨#[116, 111, 112]⟩ := by simp [whyS, h4, hm, hg, hx, ht]
              rw [hw]
              unfold whSt cfB
              repeat' (first | apply gwS | simp only [wN, wM, Nat.reduceAdd, Nat.reduceMul] | ((first | refine gwR [] ?_ | refine gwD [] ?_); intro Q hQ hP; simp [hC, hY, h4, hg, hx, ht]; (first | refine hQ _ _ _ _ (by kernel_rfl) ?_ | refine hP _ _ (by kernel_rfl) fun _ => ?_); clear hQ hP Q) | apply gwB | apply gwT | apply gwK | apply gwE | apply gwG | apply gwL | simp only [blockG_exit] | (refine gwC ?_ ?_ <;> (intro hb; first | (cases hb; done) | skip)))
              refine ⟨.inr rfl, by simp [Tryd.results52], keep_of G0F (by simp) (by (intro k hk; first | rfl | (simp (disch := omega) only [addB, List.mem_cons, List.not_mem_nil, or_false, upd_other, hpL_cons, hpL_nil, if_neg, updL] <;> done)))⟩
            | true =>
              cases hn : wiB nr 1 (Int.bmod (2 * bx) 18446744073709551616) with
              | false =>
                have hw : whyS n f g bx tp nr md = ⟨#[110, 101, 97, 114]⟩ := by simp [whyS, h4, hm, hg, hx, ht, hn]
                rw [hw]
                unfold whSt cfB
                repeat' (first | apply gwS | simp only [wN, wM, Nat.reduceAdd, Nat.reduceMul] | ((first | refine gwR [] ?_ | refine gwD [] ?_); intro Q hQ hP; simp [hC, hY, h4, hg, hx, ht, hn]; (first | refine hQ _ _ _ _ (by kernel_rfl) ?_ | refine hP _ _ (by kernel_rfl) fun _ => ?_); clear hQ hP Q) | apply gwB | apply gwT | apply gwK | apply gwE | apply gwG | apply gwL | simp only [blockG_exit] | (refine gwC ?_ ?_ <;> (intro hb; first | (cases hb; done) | skip)))
                refine ⟨.inr rfl, by simp [Tryd.results52], keep_of G0F (by simp) (by (intro k hk; first | rfl | (simp (disch := omega) only [addB, List.mem_cons, List.not_mem_nil, or_false, upd_other, hpL_cons, hpL_nil, if_neg, updL] <;> done)))⟩
              | true =>
                cases hd : wiB md 0 4 with
                | false =>
                  have hw : whyS n f g bx tp nr md = ⟨#[109, 101, 116, 104, 111, 100]⟩ := by simp [whyS, h4, hm, hg, hx, ht, hn, hd]
                  rw [hw]
                  unfold whSt cfB
                  repeat' (first | apply gwS | simp only [wN, wM, Nat.reduceAdd, Nat.reduceMul] | ((first | refine gwR [] ?_ | refine gwD [] ?_); intro Q hQ hP; simp [hC, hY, h4, hg, hx, ht, hn, hd]; (first | refine hQ _ _ _ _ (by kernel_rfl) ?_ | refine hP _ _ (by kernel_rfl) fun _ => ?_); clear hQ hP Q) | apply gwB | apply gwT | apply gwK | apply gwE | apply gwG | apply gwL | simp only [blockG_exit] | (refine gwC ?_ ?_ <;> (intro hb; first | (cases hb; done) | skip)))
                  refine ⟨.inr rfl, by simp [Tryd.results52], keep_of G0F (by simp) (by (intro k hk; first | rfl | (simp (disch := omega) only [addB, List.mem_cons, List.not_mem_nil, or_false, upd_other, hpL_cons, hpL_nil, if_neg, updL] <;> done)))⟩
                | true =>
                  have hw : whyS n f g bx tp nr md = ⟨#[]⟩ := by simp [whyS, h4, hm, hg, hx, ht, hn, hd]
                  rw [hw]
                  unfold whSt cfB
                  repeat' (first | apply gwS | simp only [wN, wM, Nat.reduceAdd, Nat.reduceMul] | ((first | refine gwR [] ?_ | refine gwD [] ?_); intro Q hQ hP; simp [hC, hY, h4, hg, hx, ht, hn, hd]; (first | refine hQ _ _ _ _ (by kernel_rfl) ?_ | refine hP _ _ (by kernel_rfl) fun _ => ?_); clear hQ hP Q) | apply gwB | apply gwT | apply gwK | apply gwE | apply gwG | apply gwL | simp only [blockG_exit] | (refine gwC ?_ ?_ <;> (intro hb; first | (cases hb; done) | skip)))
                  refine ⟨.inr rfl, by simp [Tryd.results52], keep_of G0F (by simp) (by (intro k hk; first | rfl | (simp (disch := omega) only [addB, List.mem_cons, List.not_mem_nil, or_false, upd_other, hpL_cons, hpL_nil, if_neg, updL] <;> done)))⟩
      · have hNn' : N < n := by omega
        have hend := hend.resolve_left hNn
        have hm : allM f n = false := by
          cases hm : allM f n with
          | false => rfl
          | true => have := allM_iff.1 hm N hNn'; rw [hend] at this; cases this
        have hw : whyS n f g bx tp nr md = ⟨#[109, 97, 115, 115]⟩ := by simp [whyS, h4, hm]
        rw [hw]
        have hi' : (N : Int) < n := by omega
        have hz : (0 : Int) ≤ N := by omega
        have hld := h.at (i := N) (by omega)
        unfold whSt cfB
        repeat' (first | apply gwS | simp only [wN, wM, Nat.reduceAdd, Nat.reduceMul] | ((first | refine gwR [] ?_ | refine gwD [] ?_); intro Q hQ hP; simp [hC, hY, hi', hz, hld, hend]; (first | refine hQ _ _ _ _ (by kernel_rfl) ?_ | refine hP _ _ (by kernel_rfl) fun _ => ?_); clear hQ hP Q) | apply gwB | apply gwT | apply gwK | apply gwE | apply gwG | apply gwL | simp only [blockG_exit] | (refine gwC ?_ ?_ <;> (intro hb; first | (cases hb; done) | skip)))
        refine ⟨.inr rfl, by simp [Tryd.results52], keep_of G0F (by simp) (by (intro k hk; first | rfl | (simp (disch := omega) only [addB, List.mem_cons, List.not_mem_nil, or_false, upd_other, hpL_cons, hpL_nil, if_neg, updL] <;> done)))⟩
theorem chk11_fun (b : Blk) (off n cap : Nat) (f : Nat → Int) (h : MB b off n f) (g bx tp nr md : Int) :
    Fun Tryd.prog G0 33 #[cfV (.slice (some ⟨100, off, none⟩) n cap) g bx tp nr md] (hpL G0 [(100, b)]) (keys [(100, b)]) (.ret (.int .i64 (if cfOk n f g bx tp nr md = true then 0 else 110)) []) := by
  refine fun_ofL (B := 200) G0F Tryd.func33 rfl Tryd.call33 (oneL_ok h.fx) ?_ (by simp) (by simp) (by simp) (by simp [Tryd.ntmps33]) (by omega) ?_
  · simp [idsV, idsA, idsF, ids0, keys, cfV]
  intro C hC hC0 hY
  have hr := fun ρ => Blk.fx_rn h.fx ρ
  have hne := whyS_ne2 n f g bx tp nr md
  unfold cfV
  cases hc : cfOk n f g bx tp nr md with
  | true =>
    rw [hc] at hne
    repeat' (first | apply gwS | simp only [wN, wM, Nat.reduceAdd, Nat.reduceMul] | ((first | refine gwR [52] ?_ | refine gwD [52] ?_); intro Q hQ hP; simp [hC, hY, hne]; (repeat ((first | (refine heapK_mv (why11_fun b off n cap f h g bx tp nr md) G0F (B := 200) (oneL_ok h.fx) (fun k => k) (fun k hk => rfl) (by simp [ren, renA, renF, ren0, cfV]) (by simp) (by simp [hr]) (by simp [keys]) (by simp [keys]; rfl) ?_)); try simp [hC, hY, hne])); (first | refine hQ _ _ _ _ (by kernel_rfl) ?_ | refine hP _ _ (by kernel_rfl) fun _ => ?_); clear hQ hP Q) | apply gwB | apply gwT | apply gwK | apply gwE | apply gwG | apply gwL | simp only [blockG_exit] | (refine gwC ?_ ?_ <;> (intro hb; first | (cases hb; done) | skip)))
    refine ⟨.inr rfl, by simp [Tryd.results33], keep_of G0F (by simp) (by (intro k hk; first | rfl | (simp (disch := omega) only [addB, List.mem_cons, List.not_mem_nil, or_false, upd_other, hpL_cons, hpL_nil, if_neg, updL] <;> done)))⟩
  | false =>
    rw [hc] at hne
    repeat' (first | apply gwS | simp only [wN, wM, Nat.reduceAdd, Nat.reduceMul] | ((first | refine gwR [52] ?_ | refine gwD [52] ?_); intro Q hQ hP; simp [hC, hY, hne]; (repeat ((first | (refine heapK_mv (why11_fun b off n cap f h g bx tp nr md) G0F (B := 200) (oneL_ok h.fx) (fun k => k) (fun k hk => rfl) (by simp [ren, renA, renF, ren0, cfV]) (by simp) (by simp [hr]) (by simp [keys]) (by simp [keys]; rfl) ?_)); try simp [hC, hY, hne])); (first | refine hQ _ _ _ _ (by kernel_rfl) ?_ | refine hP _ _ (by kernel_rfl) fun _ => ?_); clear hQ hP Q) | apply gwB | apply gwT | apply gwK | apply gwE | apply gwG | apply gwL | simp only [blockG_exit] | (refine gwC ?_ ?_ <;> (intro hb; first | (cases hb; done) | skip)))
    refine ⟨.inr rfl, by simp [Tryd.results33], keep_of G0F (by simp) (by (intro k hk; first | rfl | (simp (disch := omega) only [addB, List.mem_cons, List.not_mem_nil, or_false, upd_other, hpL_cons, hpL_nil, if_neg, updL] <;> done)))⟩
theorem why11_nil (g bx tp nr md : Int) : Ret Tryd.prog G0 52 #[.agg #[.slice none 0 0, .int .i64 g, .int .i64 bx, .int .i64 tp, .int .i64 nr, .int .i64 md]] (.string ⟨#[98, 111, 100, 105, 101, 115]⟩) := by
  refine ret_of G0F Tryd.func52 rfl Tryd.call52 (by simp) (by simp) (by simp [Tryd.ntmps52]) ?_
  intro C hC hC0 hY
  have h4 : wiB 0 1 4 = false := by decide
  repeat' (first | apply gwS | simp only [wN, wM, Nat.reduceAdd, Nat.reduceMul] | ((first | refine gwR [] ?_ | refine gwD [] ?_); intro Q hQ hP; simp [hC, hY, h4]; (first | refine hQ _ _ _ _ (by kernel_rfl) ?_ | refine hP _ _ (by kernel_rfl) fun _ => ?_); clear hQ hP Q) | apply gwB | apply gwT | apply gwK | apply gwE | apply gwG | apply gwL | simp only [blockG_exit] | (refine gwC ?_ ?_ <;> (intro hb; first | (cases hb; done) | skip)))
  refine ⟨.inr trivial, ?_⟩
  simp [Tryd.results52]
@[simp] theorem why11N (g bx tp nr md : Int) (K : Value → Prop) : callK Tryd.prog G0 52 #[.agg #[.slice none 0 0, .int .i64 g, .int .i64 bx, .int .i64 tp, .int .i64 nr, .int .i64 md]] K ↔ K (.string ⟨#[98, 111, 100, 105, 101, 115]⟩) := callK_iff G0W (by kernel_rfl) (why11_nil g bx tp nr md)

theorem chk11_nil (g bx tp nr md : Int) : Ret Tryd.prog G0 33 #[cfV (.slice none 0 0) g bx tp nr md] (.int .i64 110) := by
  unfold cfV
  refine ret_of G0F Tryd.func33 rfl Tryd.call33 (by simp) (by simp) (by simp [Tryd.ntmps33]) ?_
  intro C hC hC0 hY
  have hne : sneB ⟨#[98, 111, 100, 105, 101, 115]⟩ ⟨#[]⟩ = true := by decide +kernel
  repeat' (first | apply gwS | simp only [wN, wM, Nat.reduceAdd, Nat.reduceMul] | ((first | refine gwR [] ?_ | refine gwD [] ?_); intro Q hQ hP; simp [hC, hY, hne]; (first | refine hQ _ _ _ _ (by kernel_rfl) ?_ | refine hP _ _ (by kernel_rfl) fun _ => ?_); clear hQ hP Q) | apply gwB | apply gwT | apply gwK | apply gwE | apply gwG | apply gwL | simp only [blockG_exit] | (refine gwC ?_ ?_ <;> (intro hb; first | (cases hb; done) | skip)))
  refine ⟨.inr trivial, ?_⟩
  simp [Tryd.results33]
@[simp] theorem chk11N (g bx tp nr md : Int) (K : Value → Prop) : callK Tryd.prog G0 33 #[.agg #[.slice none 0 0, .int .i64 g, .int .i64 bx, .int .i64 tp, .int .i64 nr, .int .i64 md]] K ↔ K (.int .i64 110) := callK_iff G0W (by kernel_rfl) (chk11_nil g bx tp nr md)
set_option maxRecDepth 8000 in
set_option maxHeartbeats 2000000 in
theorem fits16_L (L : List (Nat × Blk)) (ks : Nat) (bm bs : Blk) (hT : LTwo G0 L ks bm bs) (off n cap off2 n2 cap2 : Nat) (fm fs : Nat → Int) (hm : MB bm off n fm) (hSb : SB bs off2 n2 fs) (g bx tp nr md st : Int) :
    Fun Tryd.prog G0 12 #[cfV (.slice (some ⟨100, off, none⟩) n cap) g bx tp nr md, .agg #[.int .i64 st, .slice (some ⟨ks, off2, none⟩) n2 cap2]] (hpL G0 L) (keys L) (.ret (.bool (fitB n n2 (cfOk n fm g bx tp nr md) (rightB st fs n2))) []) := by
  refine fun_ofL (B := 200) G0F Tryd.func12 rfl Tryd.call12 hT.ok ?_ (by simp) (by simp) (by simp) (by simp [Tryd.ntmps12]) (by omega) ?_
  · simp [idsV, idsA, idsF, ids0, hT.ia, hT.ib, cfV]
  intro C hC hC0 hY
  have hA := hT.a
  have hS := hT.s
  have hne := hT.ne
  have hLow := hT.low
  have hks := hT.k1
  have hks2 := hT.k2
  have hrm := fun ρ => Blk.fx_rn hm.fx ρ
  have hrs := fun ρ => Blk.fx_rn hSb.fx ρ
  have hck := chk11_fun bm off n cap fm hm g bx tp nr md
  have hri := rig10_fun bs off2 n2 cap2 fs hSb st
  unfold fitB
  unfold cfV at hck ⊢
  cases hc : cfOk n fm g bx tp nr md with
  | false =>
    rw [hc] at hck
    rw [show (decide (n = n2) && (false && rightB st fs n2)) = false by simp]
    repeat' (first | apply gwS | simp only [wN, wM, Nat.reduceAdd, Nat.reduceMul] | ((first | refine gwR [33, 17] ?_ | refine gwD [33, 17] ?_); intro Q hQ hP; simp [hC, hY, hA, hS, hne]; (repeat ((first | (refine heapK_mv hck G0F (B := 200) (oneL_ok hm.fx) (fun k => k) (fun k hk => rfl) (by simp [ren, renA, renF, ren0, cfV]) (by simp) (by simp [hrm, hA]) (by simp [keys]) (by simp [keys]; rfl) ?_)); try simp [hC, hY, hA, hS, hne])); (first | refine hQ _ _ _ _ (by kernel_rfl) ?_ | refine hP _ _ (by kernel_rfl) fun _ => ?_); clear hQ hP Q) | apply gwB | apply gwT | apply gwK | apply gwE | apply gwG | apply gwL | simp only [blockG_exit] | (refine gwC ?_ ?_ <;> (intro hb; first | (cases hb; done) | skip)))
    refine ⟨.inr rfl, by simp [Tryd.results12], keep_of G0F (by (intro p hp; have hpb := hT.ok.big p hp; first | rfl | (simp (disch := omega) only [addB, upd_other, hpL_cons, hpL_nil, if_neg, updL, List.cons_append, List.nil_append] <;> done))) (by (intro k hk; first | exact hLow k hk | (simp (disch := omega) only [hLow, addB, List.mem_cons, List.not_mem_nil, or_false, upd_other, hpL_cons, hpL_nil, if_neg, updL, List.cons_append, List.nil_append] <;> done)))⟩
  | true =>
    rw [hc] at hck
    cases hr : rightB st fs n2 with
    | false =>
      rw [hr] at hri
      rw [show (decide (n = n2) && (true && false)) = false by simp]
      repeat' (first | apply gwS | simp only [wN, wM, Nat.reduceAdd, Nat.reduceMul] | ((first | refine gwR [33, 17] ?_ | refine gwD [33, 17] ?_); intro Q hQ hP; simp [hC, hY, hA, hS, hne]; (repeat ((first | (refine heapK_mv hck G0F (B := 200) (oneL_ok hm.fx) (fun k => k) (fun k hk => rfl) (by simp [ren, renA, renF, ren0, cfV]) (by simp) (by simp [hrm, hA]) (by simp [keys]) (by simp [keys]; rfl) ?_) | (refine heapK_mv hri G0F (B := 200) (oneL_ok hSb.fx) (fun k => if k = 100 then ks else k) (fun k hk => if_neg (by omega)) (by simp [ren, renA, renF, ren0]) (by simp) (by simp [hrs, hS, hne, hks]) (by simp [keys]) (by simp [keys]; rfl) ?_)); try simp [hC, hY, hA, hS, hne])); (first | refine hQ _ _ _ _ (by kernel_rfl) ?_ | refine hP _ _ (by kernel_rfl) fun _ => ?_); clear hQ hP Q) | apply gwB | apply gwT | apply gwK | apply gwE | apply gwG | apply gwL | simp only [blockG_exit] | (refine gwC ?_ ?_ <;> (intro hb; first | (cases hb; done) | skip)))
      refine ⟨.inr rfl, by simp [Tryd.results12], keep_of G0F (by (intro p hp; have hpb := hT.ok.big p hp; first | rfl | (simp (disch := omega) only [addB, upd_other, hpL_cons, hpL_nil, if_neg, updL, List.cons_append, List.nil_append] <;> done))) (by (intro k hk; first | exact hLow k hk | (simp (disch := omega) only [hLow, addB, List.mem_cons, List.not_mem_nil, or_false, upd_other, hpL_cons, hpL_nil, if_neg, updL, List.cons_append, List.nil_append] <;> done)))⟩
    | true =>
      rw [hr] at hri
      by_cases hn : n = n2
      · have hn' : (n : Int) = (n2 : Int) := by omega
        have hnb : ((n : Int) == (n2 : Int)) = true := by simpa using hn'
        rw [decide_eq_true hn]
        repeat' (first | apply gwS | simp only [wN, wM, Nat.reduceAdd, Nat.reduceMul] | ((first | refine gwR [33, 17] ?_ | refine gwD [33, 17] ?_); intro Q hQ hP; simp [hC, hY, hA, hS, hne, hn', hnb]; (repeat ((first | (refine heapK_mv hck G0F (B := 200) (oneL_ok hm.fx) (fun k => k) (fun k hk => rfl) (by simp [ren, renA, renF, ren0, cfV]) (by simp) (by simp [hrm, hA]) (by simp [keys]) (by simp [keys]; rfl) ?_) | (refine heapK_mv hri G0F (B := 200) (oneL_ok hSb.fx) (fun k => if k = 100 then ks else k) (fun k hk => if_neg (by omega)) (by simp [ren, renA, renF, ren0]) (by simp) (by simp [hrs, hS, hne, hks]) (by simp [keys]) (by simp [keys]; rfl) ?_)); try simp [hC, hY, hA, hS, hne, hn', hnb])); (first | refine hQ _ _ _ _ (by kernel_rfl) ?_ | refine hP _ _ (by kernel_rfl) fun _ => ?_); clear hQ hP Q) | apply gwB | apply gwT | apply gwK | apply gwE | apply gwG | apply gwL | simp only [blockG_exit] | (refine gwC ?_ ?_ <;> (intro hb; first | (cases hb; done) | skip)))
        refine ⟨.inr rfl, by simp [Tryd.results12], keep_of G0F (by (intro p hp; have hpb := hT.ok.big p hp; first | rfl | (simp (disch := omega) only [addB, upd_other, hpL_cons, hpL_nil, if_neg, updL, List.cons_append, List.nil_append] <;> done))) (by (intro k hk; first | exact hLow k hk | (simp (disch := omega) only [hLow, addB, List.mem_cons, List.not_mem_nil, or_false, upd_other, hpL_cons, hpL_nil, if_neg, updL, List.cons_append, List.nil_append] <;> done)))⟩
      · have hn' : ¬ (n : Int) = (n2 : Int) := by omega
        have hnb : ((n : Int) == (n2 : Int)) = false := by simpa using hn'
        rw [decide_eq_false hn]
        repeat' (first | apply gwS | simp only [wN, wM, Nat.reduceAdd, Nat.reduceMul] | ((first | refine gwR [33, 17] ?_ | refine gwD [33, 17] ?_); intro Q hQ hP; simp [hC, hY, hA, hS, hne, hn', hnb]; (repeat ((first | (refine heapK_mv hck G0F (B := 200) (oneL_ok hm.fx) (fun k => k) (fun k hk => rfl) (by simp [ren, renA, renF, ren0, cfV]) (by simp) (by simp [hrm, hA]) (by simp [keys]) (by simp [keys]; rfl) ?_) | (refine heapK_mv hri G0F (B := 200) (oneL_ok hSb.fx) (fun k => if k = 100 then ks else k) (fun k hk => if_neg (by omega)) (by simp [ren, renA, renF, ren0]) (by simp) (by simp [hrs, hS, hne, hks]) (by simp [keys]) (by simp [keys]; rfl) ?_)); try simp [hC, hY, hA, hS, hne, hn', hnb])); (first | refine hQ _ _ _ _ (by kernel_rfl) ?_ | refine hP _ _ (by kernel_rfl) fun _ => ?_); clear hQ hP Q) | apply gwB | apply gwT | apply gwK | apply gwE | apply gwG | apply gwL | simp only [blockG_exit] | (refine gwC ?_ ?_ <;> (intro hb; first | (cases hb; done) | skip)))
        refine ⟨.inr rfl, by simp [Tryd.results12], keep_of G0F (by (intro p hp; have hpb := hT.ok.big p hp; first | rfl | (simp (disch := omega) only [addB, upd_other, hpL_cons, hpL_nil, if_neg, updL, List.cons_append, List.nil_append] <;> done))) (by (intro k hk; first | exact hLow k hk | (simp (disch := omega) only [hLow, addB, List.mem_cons, List.not_mem_nil, or_false, upd_other, hpL_cons, hpL_nil, if_neg, updL, List.cons_append, List.nil_append] <;> done)))⟩
theorem great_L (L : List (Nat × Blk)) (ks : Nat) (bm bs : Blk) (hT : LTwo G0 L ks bm bs) (off n cap off2 n2 cap2 : Nat) (g bx tp nr md st : Int) :
    Fun Tryd.prog G0 11 #[cfV (.slice (some ⟨100, off, none⟩) n cap) g bx tp nr md, .agg #[.int .i64 st, .slice (some ⟨ks, off2, none⟩) n2 cap2]] (hpL G0 L) (keys L) (.ret (.bool (decide (9 < n) || decide (9 < n2))) []) := by
  refine fun_ofL (B := 200) G0F Tryd.func11 rfl Tryd.call11 hT.ok ?_ (by simp) (by simp) (by simp) (by simp [Tryd.ntmps11]) (by omega) ?_
  · simp [idsV, idsA, idsF, ids0, hT.ia, hT.ib, cfV]
  intro C hC hC0 hY
  have hLow := hT.low
  unfold cfV
  by_cases h1 : 9 < n
  · have h1' : (9 : Int) < (n : Int) := by omega
    rw [decide_eq_true h1, Bool.true_or]
    repeat' (first | apply gwS | simp only [wN, wM, Nat.reduceAdd, Nat.reduceMul] | ((first | refine gwR [] ?_ | refine gwD [] ?_); intro Q hQ hP; simp [hC, hY, h1']; (first | refine hQ _ _ _ _ (by kernel_rfl) ?_ | refine hP _ _ (by kernel_rfl) fun _ => ?_); clear hQ hP Q) | apply gwB | apply gwT | apply gwK | apply gwE | apply gwG | apply gwL | simp only [blockG_exit] | (refine gwC ?_ ?_ <;> (intro hb; first | (cases hb; done) | skip)))
    refine ⟨.inr rfl, by simp [Tryd.results11], keep_of G0F (by (intro p hp; have hpb := hT.ok.big p hp; first | rfl | (simp (disch := omega) only [addB, upd_other, hpL_cons, hpL_nil, if_neg, updL, List.cons_append, List.nil_append] <;> done))) (by (intro k hk; first | exact hLow k hk | (simp (disch := omega) only [hLow, addB, List.mem_cons, List.not_mem_nil, or_false, upd_other, hpL_cons, hpL_nil, if_neg, updL, List.cons_append, List.nil_append] <;> done)))⟩
  · have h1' : ¬ (9 : Int) < (n : Int) := by omega
    rw [decide_eq_false h1, Bool.false_or]
    by_cases h2 : 9 < n2
    · have h2' : (9 : Int) < (n2 : Int) := by omega
      rw [decide_eq_true h2]
      repeat' (first | apply gwS | simp only [wN, wM, Nat.reduceAdd, Nat.reduceMul] | ((first | refine gwR [] ?_ | refine gwD [] ?_); intro Q hQ hP; simp [hC, hY, h1', h2']; (first | refine hQ _ _ _ _ (by kernel_rfl) ?_ | refine hP _ _ (by kernel_rfl) fun _ => ?_); clear hQ hP Q) | apply gwB | apply gwT | apply gwK | apply gwE | apply gwG | apply gwL | simp only [blockG_exit] | (refine gwC ?_ ?_ <;> (intro hb; first | (cases hb; done) | skip)))
      refine ⟨.inr rfl, by simp [Tryd.results11], keep_of G0F (by (intro p hp; have hpb := hT.ok.big p hp; first | rfl | (simp (disch := omega) only [addB, upd_other, hpL_cons, hpL_nil, if_neg, updL, List.cons_append, List.nil_append] <;> done))) (by (intro k hk; first | exact hLow k hk | (simp (disch := omega) only [hLow, addB, List.mem_cons, List.not_mem_nil, or_false, upd_other, hpL_cons, hpL_nil, if_neg, updL, List.cons_append, List.nil_append] <;> done)))⟩
    · have h2' : ¬ (9 : Int) < (n2 : Int) := by omega
      rw [decide_eq_false h2]
      repeat' (first | apply gwS | simp only [wN, wM, Nat.reduceAdd, Nat.reduceMul] | ((first | refine gwR [] ?_ | refine gwD [] ?_); intro Q hQ hP; simp [hC, hY, h1', h2']; (first | refine hQ _ _ _ _ (by kernel_rfl) ?_ | refine hP _ _ (by kernel_rfl) fun _ => ?_); clear hQ hP Q) | apply gwB | apply gwT | apply gwK | apply gwE | apply gwG | apply gwL | simp only [blockG_exit] | (refine gwC ?_ ?_ <;> (intro hb; first | (cases hb; done) | skip)))
      refine ⟨.inr rfl, by simp [Tryd.results11], keep_of G0F (by (intro p hp; have hpb := hT.ok.big p hp; first | rfl | (simp (disch := omega) only [addB, upd_other, hpL_cons, hpL_nil, if_neg, updL, List.cons_append, List.nil_append] <;> done))) (by (intro k hk; first | exact hLow k hk | (simp (disch := omega) only [hLow, addB, List.mem_cons, List.not_mem_nil, or_false, upd_other, hpL_cons, hpL_nil, if_neg, updL, List.cons_append, List.nil_append] <;> done)))⟩
theorem epair_atz {g m w q : Int} (h : EIn g m w q) (hq : q = 0) (K : Value → Prop) : callK Tryd.prog G0 7 #[.int .i64 g, .int .i64 m, .int .i64 w, .int .i64 q] K ↔ K (.tuple #[.int .i64 0, .int .i64 0, .int .i64 30]) := callK_iff G0W (by kernel_rfl) (epair_z h hq)
theorem first_of {P : Nat × Nat → Prop} : ∀ {l : List (Nat × Nat)}, (∃ p ∈ l, P p) → ∃ N, ∃ h : N < l.length, P l[N] ∧ ∀ j, j < N → ∀ h : j < l.length, ¬ P l[j]
  | [], h => by obtain ⟨p, hp, _⟩ := h; cases hp
  | a :: l, h => by
    by_cases ha : P a
    · exact ⟨0, by simp, ha, fun j hj => by omega⟩
    · obtain ⟨p, hp, hP⟩ := h
      rcases List.mem_cons.1 hp with rfl | hp
      · exact absurd hP ha
      · obtain ⟨N, h1, h2, h3⟩ := first_of ⟨p, hp, hP⟩
        refine ⟨N + 1, by simpa using h1, by simpa using h2, fun j hj hl => ?_⟩
        cases j with
        | zero => exact ha
        | succ j => simpa using h3 j (by omega) (by simpa using hl)
theorem pS_ex {F : Nat → Nat → Int} : ∀ {l : List (Nat × Nat)}, ¬ pS F l = 0 → ∃ p ∈ l, ¬ F p.1 p.2 = 0
  | [], h => absurd rfl h
  | p :: l, h => by
    by_cases hp : F p.1 p.2 = 0
    · obtain ⟨q, hq, h2⟩ := pS_ex (F := F) (l := l) fun e => h (by simp only [pS]; omega)
      exact ⟨q, List.mem_cons_of_mem _ hq, h2⟩
    · exact ⟨p, by simp, hp⟩
theorem first_z {fs : Nat → Int} {n : Nat} (hn : 1 ≤ n ∧ n ≤ 4) (hz : ¬ potZ fs n = 0) : ∃ N, ∃ h : N < (epIx n).length, esqF fs (epIx n)[N].1 (epIx n)[N].2 = 0 ∧ ∀ j, j < N → ∀ h : j < (epIx n).length, ¬ esqF fs (epIx n)[j].1 (epIx n)[j].2 = 0 := by
  unfold potZ at hz
  rw [sum2_ep _ hn] at hz
  obtain ⟨p, hp, h⟩ := pS_ex hz
  refine first_of (P := fun p => esqF fs p.1 p.2 = 0) ⟨p, hp, ?_⟩
  by_cases c : esqF fs p.1 p.2 = 0
  · exact c
  · exact absurd (if_neg c) h
set_option maxRecDepth 8000 in
set_option maxHeartbeats 4000000 in
theorem epot_zero (L : List (Nat × Blk)) (ks : Nat) (bm bs : Blk) (hT : LTwo G0 L ks bm bs) (off n cap off2 cap2 : Nat) (fm fs : Nat → Int) (hm : MB bm off n fm) (hSb : SB bs off2 n fs) (hcap2 : n ≤ cap2) (g bx tp nr md st : Int) (hs : i64 st)
    (hok : cfOk n fm g bx tp nr md = true) (hrt : rightB st fs n = true) (hz : ¬ potZ fs n = 0) :
    Fun Tryd.prog G0 34 #[cfV (.slice (some ⟨100, off, none⟩) n cap) g bx tp nr md, .agg #[.int .i64 st, .slice (some ⟨ks, off2, none⟩) n cap2]] (hpL G0 L) (keys L) (.ret (.tuple #[spV 0 0, .int .i64 30]) []) := by
  refine fun_ofL (B := 200) G0F Tryd.func34 rfl Tryd.call34 hT.ok ?_ (flatV_ids (by simp [spV])) (by simp) (by simp) (by simp [Tryd.ntmps34]) (by omega) ?_
  · simp [idsV, idsA, idsF, ids0, hT.ia, hT.ib, cfV]
  intro C hC hC0 hY
  have hA := hT.a
  have hS := hT.s
  have hne := hT.ne
  have hLow := hT.low
  have hks := hT.k1
  have hks2 := hT.k2
  have hfit := kFits_L L ks bm bs hT off n cap off2 n cap2 fm fs hm hSb g bx tp nr md st hs
  rw [fitB_iff.2 ⟨rfl, hok, hrt⟩] at hfit
  have hn4 := (right_n hrt).2.1
  obtain ⟨N, hN, hzN, hbef⟩ := first_z hn4 hz
  have hpr := epairs_at 280 (by omega) L ks bm bs hT off n cap off2 n cap2 g bx tp nr md st
  unfold cfV at hfit hpr ⊢
  repeat' (first | apply gwS | simp only [wN, wM, Nat.reduceAdd, Nat.reduceMul] | ((first | refine gwR [38] ?_ | refine gwD [38] ?_); intro Q hQ hP; simp [hC, hY, hA, hS, hne, wi_zero]; (repeat ((first | (refine heapK_L hfit hT.ok (by (intro p hp; have hpb := hT.ok.big p hp; (try dsimp only); simp (disch := omega) only [addB, upd_other, hpL_cons, hpL_nil, if_neg, updL, List.cons_append, List.nil_append]; first | exact hT.mem p hp | exact cL p hp)) ?_)); try simp [hC, hY, hA, hS, hne, wi_zero])); (first | refine hQ _ _ _ _ (by kernel_rfl) ?_ | refine hP _ _ (by kernel_rfl) fun _ => ?_); clear hQ hP Q) | apply gwB | apply gwT | apply gwK | apply gwE | apply gwG | apply gwL | simp only [blockG_exit] | (refine gwC ?_ ?_ <;> (intro hb; first | (cases hb; done) | skip)))
  refine GW_list ?_
  simp only [Array.toList]
  refine GL_walk 2 [] rfl (by simp) (by kernel_rfl) ?_; intro q hq; simp [hC, hY, hA, hS, hne]; refine hq _ _ _ _ ?_; clear hq q
  simp only [wT, List.length_cons, List.length_nil, Nat.reduceAdd]
  refine GL_callL (f := .func 53) (cap := #[]) hC hpr rfl (by simp) rfl rfl (by simp [okT]) (by simp [gev]) (by simp) (by simp [okX, junk]) (by simp [gev]) (by intro q hq; obtain ⟨p, hp, rfl⟩ := mem_keys.1 hq; have hpb := hT.ok.big p hp; (try dsimp only); simp (disch := omega) only [upd_other]) (by (intro k hk; first | exact hLow k hk | (simp (disch := omega) only [hLow, addB, List.mem_cons, List.not_mem_nil, or_false, upd_other, hpL_cons, hpL_nil, if_neg, updL, List.cons_append, List.nil_append] <;> done))) (fun v ns hV k hk => by have := epairsR_key hV k hk; simp; omega) ?_
  rintro v ns ⟨rfl, rfl⟩
  refine GL_nil ?_
  repeat' (first | apply gwS | simp only [wN, wM, Nat.reduceAdd, Nat.reduceMul] | ((first | refine gwR [] ?_ | refine gwD [] ?_); intro Q hQ hP; simp [hC, hY, putT, updL, hA, hS, hne]; (first | refine hQ _ _ _ _ (by kernel_rfl) ?_ | refine hP _ _ (by kernel_rfl) fun _ => ?_); clear hQ hP Q) | apply gwB | apply gwT | apply gwK | apply gwE | apply gwG | apply gwL | simp only [blockG_exit] | (refine gwC ?_ ?_ <;> (intro hb; first | (cases hb; done) | skip)))
  simp only [putT, updL]
  refine GW_freeze 200 (t := 36) (cs := #[.slice (some ⟨100, off, none⟩) n cap, .int .i64 g, .int .i64 bx, .int .i64 tp, .int .i64 nr, .int .i64 md]) (by simp [cfB]) (by omega) ?_
  intro cq hq1 hq2
  have hq4 : cq[1]? = some (.int .i64 g) := hq2 1 _ rfl rfl
  have hq6 : cq.size = 6 := hq1
  have hidL : ∀ k ∈ keys L, epr k = k := fun k hk => by
    obtain ⟨p, hp, rfl⟩ := mem_keys.1 hk
    exact epr_id (hT.ok.big p hp).2
  have hout : ∀ k, 200 ≤ k → k ≠ 280 → k ≠ 281 → (k ∈ 280 :: 281 :: keys L) = False := fun k h1 h2 h3 => eq_false fun hm => by
    rcases List.mem_cons.1 hm with e | hm
    · exact h2 e
    · rcases List.mem_cons.1 hm with e | hm
      · exact h3 e
      · obtain ⟨p, hp, rfl⟩ := mem_keys.1 hm
        have := (hT.ok.big p hp).2
        omega
  have hasd : ∀ C0 : Ctx, (C0.hp0 = fun k => if k ∈ 280 :: 281 :: keys L then none else C.hp0 k) → C0.hp0 = hpL G0 [] := fun C0 h0 => by
    rw [h0, hC0]
    exact eAsd hT.ok
  refine GW_rangeK (f := 70) (rs := 280 :: 281 :: keys L) (xs := (epIx n).map fun p => epV fm fs p.1 p.2) (caps := #[.pointer (some ⟨281, 0, none⟩), .pointer (some ⟨280, 0, none⟩)]) (280 :: 281 :: keys L) hY (by simp) ?_ ?_ (by simp [Tryd.ntmps34]) (tsL epTs) (tsL epTs) (epI cq (fun i k => enLo g (fm i) (fm k) (esqF fs i k)) (fun i k => enHi g (fm i) (fm k) (esqF fs i k)) (epIx n)) (hpS := hpL G0 (epM cq 0 0)) 300 N (by simp; omega) (fun k hk => hk) ?_ ?_ ?_ ?_ ?_ (fun _ => .inl rfl) ?_ ?_
  · rw [hC]
    refine iterk_mv (epairs_it L ks bm bs hT off n cap off2 cap2 fm fs hm hSb hcap2 hn4 g bx tp nr md st) G0F (enM_ok hT off n cap off2 n cap2 g bx tp nr md st) epr (fun k hk => epr_id (by omega)) (by simp [ren0, epr]) ?_ (by (intro k hk; first | exact hLow k hk | (simp (disch := omega) only [hLow, addB, List.mem_cons, List.not_mem_nil, or_false, upd_other, hpL_cons, hpL_nil, if_neg, updL, List.cons_append, List.nil_append] <;> done))) ?_ ?_
    · show epr 200 :: epr 208 :: (keys L).map epr = _
      rw [List.map_congr_left hidL]
      simp [epr]
    · intro p hp
      rcases List.mem_cons.1 hp with rfl | hp
      · simp [epr, cfB, Blk.rn, renF, ren0, upd]
      · rcases List.mem_cons.1 hp with rfl | hp
        · have h3 : epr ks = ks := epr_id hks2
          simp [stB', Blk.rn, renF, ren0, upd, h3]
          simp [epr, upd]
        · have hpb := hT.ok.big p hp
          rw [epr_id hpb.2, Blk.fx_rn (hT.fx p hp)]
          refine ⟨hpb.1, ?_⟩
          (try dsimp only)
          simp (disch := omega) only [addB, upd_other, hpL_cons, hpL_nil, if_neg, updL]
          exact hT.mem p hp
    · have key : ∀ k ∈ keys (enM L ks off n cap off2 n cap2 g bx tp nr md st), (k = 200 ∧ epr k = 280) ∨ (k = 208 ∧ epr k = 281) ∨ (k < 200 ∧ epr k = k) := fun k hk => by
        rcases List.mem_cons.1 hk with rfl | hk
        · exact .inl ⟨rfl, rfl⟩
        · rcases List.mem_cons.1 hk with rfl | hk
          · exact .inr (.inl ⟨rfl, rfl⟩)
          · obtain ⟨p, hp, rfl⟩ := mem_keys.1 hk
            have := (hT.ok.big p hp).2
            exact .inr (.inr ⟨this, epr_id this⟩)
      intro k hk l hl e
      have := key k hk
      have := key l hl
      omega
  · intro x hx
    simp only [List.mem_map] at hx
    obtain ⟨p, _, rfl⟩ := hx
    simp [epV]
  · intro k hk
    rcases List.mem_cons.1 hk with rfl | hk
    · simp [dom, upd]
    · rcases List.mem_cons.1 hk with rfl | hk
      · simp [dom, upd]
      · obtain ⟨p, hp, rfl⟩ := mem_keys.1 hk
        have hpb := hT.ok.big p hp
        refine ⟨hpb.1, ?_⟩
        unfold dom
        dsimp only
        simp (disch := omega) only [addB, upd_other, hpL_cons, hpL_nil, if_neg, updL]
        rw [hT.mem p hp]
        simp
  · intro k hk b hb1
    rcases List.mem_cons.1 hk with rfl | hk
    · simp [upd] at hb1; subst hb1; simp [cfB, ids_lit, idsF, ids0, hT.ia]
    · rcases List.mem_cons.1 hk with rfl | hk
      · simp [upd] at hb1; subst hb1; simp [stB', ids_lit, idsF, ids0, hT.ib]
      · obtain ⟨p, hp, rfl⟩ := mem_keys.1 hk
        have hpb := hT.ok.big p hp
        dsimp only at hb1
        simp (disch := omega) only [addB, upd_other, hpL_cons, hpL_nil, if_neg, updL] at hb1
        rw [hT.mem p hp] at hb1
        simp only [Option.some.injEq] at hb1
        subst hb1
        exact Blk.fx_ids (hT.fx p hp) _
  · intro C0 h1 h2
    refine weakL _ 300 (h1.trans hC) G0F (m0 := []) (hasd C0 h2) (by omega) ?_ ?_ ?_
    · simp [epTs, epM, idsV, idsA, idsF, ids0, dom]
    · simp [epM, ezB_ids, spB, ids_lit, idsF, ids0, dom, upd, wi_zero]
      rfl
    · simp
  · simp [epI, pS]
  · intro k hk
    have h3 : k = 280 ∨ k = 281 ∨ (100 ≤ k ∧ k < 200) := by
      rcases List.mem_cons.1 hk with rfl | hk
      · exact .inl rfl
      · rcases List.mem_cons.1 hk with rfl | hk
        · exact .inr (.inl rfl)
        · obtain ⟨p, hp, rfl⟩ := mem_keys.1 hk
          exact .inr (.inr (hT.ok.big p hp))
    rw [eOut (fun hm => ?_)]
    · exact G0_big k (by omega)
    · simp [epM, keys] at hm
      omega
  · intro j x hq0 hj0 hx hI C1 lb hC1 hh1 hY1
    have hj : j < (epIx n).length := by omega
    have hz1 := hbef j hj0 hj
    unfold epI at hI
    subst hI
    rw [List.getElem?_map, List.getElem?_eq_getElem hj] at hx
    simp only [Option.map_some, Option.some.injEq] at hx
    subst hx
    have t1 := pS_take (fun i k => enLo g (fm i) (fm k) (esqF fs i k)) hj
    have t2 := pS_take (fun i k => enHi g (fm i) (fm k) (esqF fs i k)) hj
    have hmem := List.getElem_mem hj
    unfold epI
    rw [t1, t2]
    clear t1 t2
    generalize (epIx n)[j] = p at *
    obtain ⟨hl1, hl2⟩ := epIx_lt hmem
    have hsq := esq_in hrt (i := p.1) (k := p.2) hl2 (by omega)
    have hg := cfOk_g hok
    have hm1 := cfOk_mass hok (i := p.1) hl2
    have hm2 := cfOk_mass hok (i := p.2) (by omega)
    have hEI : EIn g (fm p.1) (fm p.2) (esqF fs p.1 p.2) := ⟨hg.1, hg.2, hm1.1, hm1.2, hm2.1, hm2.2, hsq.1, hsq.2⟩
    have P := epair_at hEI (by omega) rfl rfl
    have hlo := hEI.lo (by omega)
    have hhi := hEI.hi (by omega)
    have hld := ez_ld hq4
    generalize pS (fun i k => enLo g (fm i) (fm k) (esqF fs i k)) ((epIx n).take j) = A at *
    generalize pS (fun i k => enHi g (fm i) (fm k) (esqF fs i k)) ((epIx n).take j) = H at *
    generalize enLo g (fm p.1) (fm p.2) (esqF fs p.1 p.2) = lo at *
    generalize enHi g (fm p.1) (fm p.2) (esqF fs p.1 p.2) = hi at *
    have il : i64 lo := ⟨by omega, by omega⟩
    have ih : i64 hi := ⟨by omega, by omega⟩
    have hCC := hC
    have hC1' : C1.G = G0 := hC1.trans hC
    unfold epV
    clear hC hY
    have hC := hC1'
    have hY := hY1
    unfold epM spB ezB
    repeat' (first | apply gwS | simp only [wN, wM, Nat.reduceAdd, Nat.reduceMul] | ((first | refine gwR [] ?_ | refine gwD [] ?_); intro Q hQ hP; simp [hC, hY, roundTs, epTs]; (first | refine hQ _ _ _ _ (by kernel_rfl) ?_ | refine hP _ _ (by kernel_rfl) fun _ => ?_); clear hQ hP Q) | apply gwB | apply gwT | apply gwK | apply gwE | apply gwG | apply gwL | simp only [blockG_exit] | (refine gwC ?_ ?_ <;> (intro hb; first | (cases hb; done) | skip)))
    intro C2 hC2 hh2 hY2
    clear hC hY
    have hC : C2.G = G0 := hC2.trans hCC
    have hY := hY2
    repeat' (first | apply gwS | simp only [wN, wM, Nat.reduceAdd, Nat.reduceMul] | ((first | refine gwR [] ?_ | refine gwD [] ?_); intro Q hQ hP; simp [hC, hY, P, hld, il, ih]; (first | refine hQ _ _ _ _ (by kernel_rfl) ?_ | refine hP _ _ (by kernel_rfl) fun _ => ?_); clear hQ hP Q) | apply gwB | apply gwT | apply gwK | apply gwE | apply gwG | apply gwL | simp only [blockG_exit] | (refine gwC ?_ ?_ <;> (intro hb; first | (cases hb; done) | skip)))
    refine ⟨fun k => k, hpL G0 (epM cq (A + lo) (H + hi)), fun C0 h1 h2 => weakRL _ _ 300 (h1.trans hCC) G0F (m0 := []) (hasd C0 h2) (by omega) ?_ ?_ ?_ ?_ ?_, rfl⟩
    · simp [epTs, epM, dom, junk, ren, renA, renF, ren0, idsV, idsA, idsF, ids0]
    · simp [epM, ezB_rn, ezB_ids, spB, Blk.rn, renF, ren0, ids_lit, idsF, ids0, dom]
      rfl
    · simp [epM]
    · intro k hk; rfl
    · simp
  · refine .inr ⟨epV fm fs (epIx n)[N].1 (epIx n)[N].2, by rw [List.getElem?_map, List.getElem?_eq_getElem hN]; rfl, ?_⟩
    intro hq0 hI C1 lb hC1 hh1 hY1
    unfold epI at hI
    subst hI
    have hmem := List.getElem_mem hN
    generalize (epIx n)[N] = p at *
    obtain ⟨hl1, hl2⟩ := epIx_lt hmem
    have hsq := esq_in hrt (i := p.1) (k := p.2) hl2 (by omega)
    have hg := cfOk_g hok
    have hm1 := cfOk_mass hok (i := p.1) hl2
    have hm2 := cfOk_mass hok (i := p.2) (by omega)
    have hEI : EIn g (fm p.1) (fm p.2) (esqF fs p.1 p.2) := ⟨hg.1, hg.2, hm1.1, hm1.2, hm2.1, hm2.2, hsq.1, hsq.2⟩
    have P := epair_atz hEI hzN
    have hld := ez_ld hq4
    generalize pS (fun i k => enLo g (fm i) (fm k) (esqF fs i k)) ((epIx n).take N) = A at *
    generalize pS (fun i k => enHi g (fm i) (fm k) (esqF fs i k)) ((epIx n).take N) = H at *
    have hCC := hC
    have hC1' : C1.G = G0 := hC1.trans hC
    unfold epV
    clear hC hY
    have hC := hC1'
    have hY := hY1
    unfold epM spB ezB
    repeat' (first | apply gwS | simp only [wN, wM, Nat.reduceAdd, Nat.reduceMul] | ((first | refine gwR [] ?_ | refine gwD [] ?_); intro Q hQ hP; simp [hC, hY, roundTs, epTs]; (first | refine hQ _ _ _ _ (by kernel_rfl) ?_ | refine hP _ _ (by kernel_rfl) fun _ => ?_); clear hQ hP Q) | apply gwB | apply gwT | apply gwK | apply gwE | apply gwG | apply gwL | simp only [blockG_exit] | (refine gwC ?_ ?_ <;> (intro hb; first | (cases hb; done) | skip)))
    intro C2 hC2 hh2 hY2
    clear hC hY
    have hC : C2.G = G0 := hC2.trans hCC
    have hY := hY2
    repeat' (first | apply gwS | simp only [wN, wM, Nat.reduceAdd, Nat.reduceMul] | ((first | refine gwR [] ?_ | refine gwD [] ?_); intro Q hQ hP; simp [hC, hY, P, hld, wi_zero]; (first | refine hQ _ _ _ _ (by kernel_rfl) ?_ | refine hP _ _ (by kernel_rfl) fun _ => ?_); clear hQ hP Q) | apply gwB | apply gwT | apply gwK | apply gwE | apply gwG | apply gwL | simp only [blockG_exit] | (refine gwC ?_ ?_ <;> (intro hb; first | (cases hb; done) | skip)))
    have hm16 := hout 216 (by omega) (by omega) (by omega)
    have hm24 := hout 224 (by omega) (by omega) (by omega)
    refine ⟨rfl, fun t => ?_, fun k hk => ?_, ?_⟩
    · rcases tsL_mem (l := [(2, .pointer (some ⟨200, 0, none⟩)), (4, .pointer (some ⟨216, 0, none⟩)), (5, .pointer (some ⟨224, 0, none⟩))]) (t := t) with h | h
      · unfold epTs; rw [h]; simp [junk, idsV, idsA, idsF, ids0]
      · simp only [List.mem_cons, List.not_mem_nil, or_false, Prod.mk.injEq] at h
        unfold epTs
        rcases h with ⟨_, h⟩ | ⟨_, h⟩ | ⟨_, h⟩ <;> rw [h] <;> simp [idsV, idsA, idsF, ids0, dom]
    · have h3 : k = 280 ∨ k = 281 ∨ (100 ≤ k ∧ k < 200) := by
        rcases List.mem_cons.1 hk with rfl | hk
        · exact .inl rfl
        · rcases List.mem_cons.1 hk with rfl | hk
          · exact .inr (.inl rfl)
          · obtain ⟨p, hp, rfl⟩ := mem_keys.1 hk
            exact .inr (.inr (hT.ok.big p hp))
      refine ⟨?_, by omega⟩
      simp (disch := omega) only [upd_other, hpL_cons, hpL_nil, if_neg, updL]
      exact G0_big k (by omega)
    ·
      repeat' (first | apply gwS | simp only [wN, wM, Nat.reduceAdd, Nat.reduceMul] | ((first | refine gwR [] ?_ | refine gwD [] ?_); intro Q hQ hP; simp [hC, hY, addB, hm16, hm24]; (first | refine hQ _ _ _ _ (by kernel_rfl) ?_ | refine hP _ _ (by kernel_rfl) fun _ => ?_); clear hQ hP Q) | apply gwB | apply gwT | apply gwK | apply gwE | apply gwG | apply gwL | simp only [blockG_exit] | (refine gwC ?_ ?_ <;> (intro hb; first | (cases hb; done) | skip)))
      refine ⟨.inr rfl, by simp [Tryd.results34, spV, addB, hm16, hm24, epTs, wi_zero], keep_of G0F (fun p hp => by
        have hpb := hT.ok.big p hp
        have hm9 : p.1 ∈ 280 :: 281 :: keys L := List.mem_cons_of_mem _ (List.mem_cons_of_mem _ (mem_keys.2 ⟨p, hp, rfl⟩))
        simp (disch := omega) only [eIn hm9, upd_other, hpL_cons, hpL_nil, if_neg, updL]) (fun k hk => by
        have hm9 : k ∉ 280 :: 281 :: keys L := fun hm9 => by
          rcases List.mem_cons.1 hm9 with rfl | hm9
          · omega
          · rcases List.mem_cons.1 hm9 with rfl | hm9
            · omega
            · obtain ⟨p, hp, rfl⟩ := mem_keys.1 hm9
              have := (hT.ok.big p hp).1
              omega
        simp (disch := omega) only [eNi hm9, upd_other, hpL_cons, hpL_nil, if_neg, updL, hLow])⟩
set_option maxRecDepth 8000 in
set_option maxHeartbeats 4000000 in
theorem eEnergy_err (E : Int) (hE : ¬ E = 0) (L : List (Nat × Blk)) (ks : Nat) (bm bs : Blk) (hT : LTwo G0 L ks bm bs) (off n cap off2 n2 cap2 : Nat) (g bx tp nr md st : Int)
    (hpo : Fun Tryd.prog G0 34 #[cfV (.slice (some ⟨100, off, none⟩) n cap) g bx tp nr md, .agg #[.int .i64 st, .slice (some ⟨ks, off2, none⟩) n2 cap2]] (hpL G0 L) (keys L) (.ret (.tuple #[spV 0 0, .int .i64 E]) [])) :
    Fun Tryd.prog G0 15 #[cfV (.slice (some ⟨100, off, none⟩) n cap) g bx tp nr md, .agg #[.int .i64 st, .slice (some ⟨ks, off2, none⟩) n2 cap2]] (hpL G0 L) (keys L) (.ret (.tuple #[spV 0 0, .int .i64 E]) []) := by
  refine fun_ofL (B := 200) G0F Tryd.func15 rfl Tryd.call15 hT.ok ?_ (flatV_ids (by simp [spV])) (by simp) (by simp) (by simp [Tryd.ntmps15]) (by omega) ?_
  · simp [idsV, idsA, idsF, ids0, hT.ia, hT.ib, cfV]
  intro C hC hC0 hY
  have hA := hT.a
  have hS := hT.s
  have hne := hT.ne
  have hLow := hT.low
  have hks := hT.k1
  have hks2 := hT.k2
  have hEb : (E != 0) = true := by simpa using hE
  have hEq : (E == 0) = false := by simpa using hE
  unfold cfV spV at hpo
  unfold cfV
  repeat' (first | apply gwS | simp only [wN, wM, Nat.reduceAdd, Nat.reduceMul] | ((first | refine gwR [34] ?_ | refine gwD [34] ?_); intro Q hQ hP; simp [hC, hY, hA, hS, hne, wi_zero, hE, hEb, hEq]; (repeat ((first | (refine heapK_L hpo hT.ok (by (intro p hp; have hpb := hT.ok.big p hp; (try dsimp only); simp (disch := omega) only [addB, upd_other, hpL_cons, hpL_nil, if_neg, updL, List.cons_append, List.nil_append]; first | exact hT.mem p hp | exact cL p hp)) ?_)); try simp [hC, hY, hA, hS, hne, wi_zero, hE, hEb, hEq])); (first | refine hQ _ _ _ _ (by kernel_rfl) ?_ | refine hP _ _ (by kernel_rfl) fun _ => ?_); clear hQ hP Q) | apply gwB | apply gwT | apply gwK | apply gwE | apply gwG | apply gwL | simp only [blockG_exit] | (refine gwC ?_ ?_ <;> (intro hb; first | (cases hb; done) | skip)))
  refine ⟨.inr rfl, by simp [Tryd.results15, spV, wi_zero], keep_of G0F (by (intro p hp; have hpb := hT.ok.big p hp; first | rfl | (simp (disch := omega) only [addB, upd_other, hpL_cons, hpL_nil, if_neg, updL, List.cons_append, List.nil_append] <;> done))) (by (intro k hk; first | exact hLow k hk | (simp (disch := omega) only [hLow, addB, List.mem_cons, List.not_mem_nil, or_false, upd_other, hpL_cons, hpL_nil, if_neg, updL, List.cons_append, List.nil_append] <;> done)))⟩
def eLo (E : Int) (g : Int) (fm fs : Nat → Int) (n : Nat) : Int := if E = 0 then kinV fm fs n - potHi g fm fs n else 0
def eHi (E : Int) (g : Int) (fm fs : Nat → Int) (n : Nat) : Int := if E = 0 then kinV fm fs n - potLo g fm fs n else 0
def enE (n n2 : Nat) (fm fs : Nat → Int) (g bx tp nr md st : Int) : Int := potE n n2 (cfOk n fm g bx tp nr md) (rightB st fs n2) fs
def enV (n n2 : Nat) (fm fs : Nat → Int) (g bx tp nr md st : Int) : Value := .tuple #[spV (eLo (enE n n2 fm fs g bx tp nr md st) g fm fs n2) (eHi (enE n n2 fm fs g bx tp nr md st) g fm fs n2), .int .i64 (enE n n2 fm fs g bx tp nr md st)]
theorem eEnergy_L (L : List (Nat × Blk)) (ks : Nat) (bm bs : Blk) (hT : LTwo G0 L ks bm bs) (off n cap off2 n2 cap2 : Nat) (fm fs : Nat → Int) (hm : MB bm off n fm) (hSb : SB bs off2 n2 fs) (hcap : n ≤ cap) (hcap2 : n2 ≤ cap2) (g bx tp nr md st : Int) (hs : i64 st) :
    Fun Tryd.prog G0 15 #[cfV (.slice (some ⟨100, off, none⟩) n cap) g bx tp nr md, .agg #[.int .i64 st, .slice (some ⟨ks, off2, none⟩) n2 cap2]] (hpL G0 L) (keys L) (.ret (enV n n2 fm fs g bx tp nr md st) []) := by
  unfold enV eLo eHi enE potE
  cases hf : fitB n n2 (cfOk n fm g bx tp nr md) (rightB st fs n2) with
  | false =>
    simp only [Bool.false_eq_true, if_false, if_neg (show ¬ (2 : Int) = 0 by decide)]
    exact eEnergy_err 2 (by decide) L ks bm bs hT off n cap off2 n2 cap2 g bx tp nr md st (epot_bad L ks bm bs hT off n cap off2 n2 cap2 fm fs hm hSb g bx tp nr md st hs hf)
  | true =>
    obtain ⟨rfl, hok, hrt⟩ := fitB_iff.1 hf
    by_cases hz : potZ fs n = 0
    · simp only [if_true, if_pos hz]
      exact eEnergy_fit L ks bm bs hT off n cap off2 cap2 fm fs hm hSb hcap hcap2 g bx tp nr md st hs hok hrt hz
    · simp only [if_true, if_neg hz, if_neg (show ¬ (30 : Int) = 0 by decide)]
      exact eEnergy_err 30 (by decide) L ks bm bs hT off n cap off2 n cap2 g bx tp nr md st (epot_zero L ks bm bs hT off n cap off2 cap2 fm fs hm hSb hcap2 g bx tp nr md st hs hok hrt hz)
def tnF (f : Nat → Int) (i : Nat) : Nat → Int := fun j => if j < 6 * i ∧ 3 ≤ j % 6 then -(f j) else f j
theorem tnF_0 (f : Nat → Int) : tnF f 0 = f := by
  funext j
  unfold tnF
  rw [if_neg (by omega)]
theorem tnF_at {f : Nat → Int} {i u : Nat} (hu : u < 6) : tnF f i (6 * i + u) = f (6 * i + u) := by
  unfold tnF
  rw [if_neg (by omega)]
theorem tnF_put {f : Nat → Int} {i : Nat} : put3 (tnF f i) (6 * i + 3) (-(f (6 * i + 3))) (-(f (6 * i + 4))) (-(f (6 * i + 5))) = tnF f (i + 1) := by
  funext j
  unfold put3 tnF
  by_cases h1 : j = 6 * i + 3
  · rw [if_pos h1, if_pos (by omega), h1]
  rw [if_neg h1]
  by_cases h2 : j = 6 * i + 3 + 1
  · rw [if_pos h2, if_pos (by omega), h2]
  rw [if_neg h2]
  by_cases h3 : j = 6 * i + 3 + 2
  · rw [if_pos h3, if_pos (by omega), h3]
  rw [if_neg h3]
  by_cases h4 : j < 6 * i ∧ 3 ≤ j % 6
  · rw [if_pos h4, if_pos (by omega)]
  · rw [if_neg h4, if_neg (by omega)]
theorem tnF_congr {f g : Nat → Int} {n i : Nat} (h : ∀ j, j < 6 * n → g j = f j) : ∀ j, j < 6 * n → tnF g i j = tnF f i j := fun j hj => by
  unfold tnF
  rw [h j hj]
theorem tput_row {M n : Nat} {g : Nat → Int} (hM : 6 * n ≤ M) {i : Nat} (hi : i < n) :
    (((fa M IntKind.i64 (tnF g i)).setIfInBounds (i * 6 + 3) (Value.int IntKind.i64 (-(g (6 * i + 3))))).setIfInBounds (i * 6 + 3 + 1) (Value.int IntKind.i64 (-(g (6 * i + 4))))).setIfInBounds (i * 6 + 3 + 1 + 1) (Value.int IntKind.i64 (-(g (6 * i + 5)))) = fa M IntKind.i64 (tnF g (i + 1)) := by
  have := splice_3 M .i64 (tnF g i) (6 * i + 3) (-(g (6 * i + 3))) (-(g (6 * i + 4))) (-(g (6 * i + 5))) (by omega)
  rw [tnF_put] at this
  rw [show i * 6 = 6 * i by omega]
  simpa [splice] using this
theorem fa_vec3 {M : Nat} {g : Nat → Int} {i : Nat} (h : i * 6 + 6 ≤ M) : loadK Tryd.prog 41 ⟨fa M .i64 g, .ty 46⟩ (i * 6 + 3) = some (.agg #[.int .i64 (g (6 * i + 3)), .int .i64 (g (6 * i + 4)), .int .i64 (g (6 * i + 5))]) := by
  have := loadK_rd (P := Tryd.prog) (T := 41) (b := ⟨fa M .i64 g, .ty 46⟩) (off := 0) (N := M) (f := g) (m := 3) (j := 6 * i + 3) (tyAgg_of Tryd.isAgg41) (tySize_of Tryd.sizeOf41) (by omega) (fun j hj => rdI_fa M g _ j hj) (by omega)
  rw [show i * 6 + 3 = 0 + (6 * i + 3) by omega, this, fa_3]
def tnSt (b : Blk) (st : Int) (n c M : Nat) (g : Nat → Int) (i : Nat) : GS :=
  ⟨tsL [(1, .pointer (some ⟨200, 0, none⟩)), (2, .pointer (some ⟨208, 0, none⟩)), (3, .int .i64 i)], hpL G0 [(200, stB' (-st) 224 0 n c), (208, ⟨#[.int .i64 0, .slice none 0 0], .ty 39⟩), (224, ⟨fa M .i64 (tnF g i), .ty 46⟩), (100, b)], 500, 0⟩
set_option maxRecDepth 8000 in
set_option maxHeartbeats 4000000 in
theorem turned_fun (b : Blk) (off n cap : Nat) (f : Nat → Int) (h : SB b off n f) (hcap : n ≤ cap) (st : Int) (hr : rightB st f n = true) :
    FunS Tryd.prog G0 16 #[.agg #[.int .i64 st, .slice (some ⟨100, off, none⟩) n cap]] (hpL G0 [(100, b)]) (keys [(100, b)]) (OwnS 1000 (-st) n (tnF f n)) := by
  refine newS_ofL (B := 200) G0F Tryd.func16 rfl Tryd.call16 (oneL_ok h.fx) ?_ owns_fit (by simp [Tryd.ntmps16]) (by omega) ?_
  · simp [idsV, idsA, idsF, ids0, keys]
  intro C hC hC0 hY
  have hst := (right_n hr).1
  have bs : Int.bmod (-st) 18446744073709551616 = -st := bm (by omega) (by omega)
  have hid := fun D => Blk.fx_ids h.fx D
  repeat' (first | apply gwS | simp only [wN, wM, Nat.reduceAdd, Nat.reduceMul] | ((first | refine gwR [] ?_ | refine gwD [] ?_); intro Q hQ hP; simp [hC, hY]; (first | refine hQ _ _ _ _ (by kernel_rfl) ?_ | refine hP _ _ (by kernel_rfl) fun _ => ?_); clear hQ hP Q) | apply gwB | apply gwT | apply gwK | apply gwE | apply gwG | apply gwL | simp only [blockG_exit] | (refine gwC ?_ ?_ <;> (intro hb; first | (cases hb; done) | skip)))
  refine GW_list ?_
  simp only [Array.toList]
  refine GL_walk 1 [] rfl (by simp) (by kernel_rfl) ?_; intro q hq; simp [hC, hY]; refine hq _ _ _ _ ?_; clear hq q
  simp only [wT, List.length_cons, List.length_nil, Nat.reduceAdd]
  refine GL_callS (f := .func 13) (args := #[.agg #[.int .i64 st, .slice (some ⟨100, off, none⟩) n cap]]) (cap := #[]) rfl (by simp) rfl rfl (by simp [okT]) (by simp [gev]) (by simp) (by simp [okX, junk]) (by simp [gev]) (hC.symm ▸ own10_at 224 (by omega) b off n cap f h hcap st) (by simp) (by rw [← hC]; (intro k hk; first | rfl | (simp (disch := omega) only [addB, List.mem_cons, List.not_mem_nil, or_false, upd_other, hpL_cons, hpL_nil, if_neg, updL] <;> done))) ?_ ?_
  · rintro v ns ⟨c, M, g, h1, h2, h3, rfl, rfl⟩
    simp [keys]
  rintro v ns ⟨c, M, g, k1, k2, k3, rfl, rfl⟩
  refine GL_walk 1 [] rfl (by simp) (by kernel_rfl) ?_; intro q hq; simp [hC, hY, putT, updL]; refine hq _ _ _ _ ?_; clear hq q
  simp only [wT, List.length_cons, List.length_nil, Nat.reduceAdd]
  refine GL_nil ?_
  repeat' (first | apply gwS | simp only [wN, wM, Nat.reduceAdd, Nat.reduceMul] | ((first | refine gwR [] ?_ | refine gwD [] ?_); intro Q hQ hP; simp [hC, hY, bs]; (first | refine hQ _ _ _ _ (by kernel_rfl) ?_ | refine hP _ _ (by kernel_rfl) fun _ => ?_); clear hQ hP Q) | apply gwB | apply gwT | apply gwK | apply gwE | apply gwG | apply gwL | simp only [blockG_exit] | (refine gwC ?_ ?_ <;> (intro hb; first | (cases hb; done) | skip)))
  refine GW_for n (tnSt b st n c M g) ?_ ?_ ?_
  · refine weakL _ 500 hC G0F (m0 := [(100, b)]) hC0 (by omega) ?_ ?_ ?_
    · simp [idsV, idsA, idsF, ids0, dom, putT]
    · simp [stB', tnF_0, ids_lit, idsF, ids0, dom, hid, Blk.fx_ids (fa_fx _ _ _), putT]
    · simp
  · intro i hi
    have hi1 : (i : Int) < n := Int.ofNat_lt.2 hi
    have hz : (0 : Int) ≤ i := Int.natCast_nonneg i
    have hn4 := (right_n hr).2.1
    have hs' : Int.bmod ((i : Int) + 1) 18446744073709551616 = ((i + 1 : Nat) : Int) := by
      rw [bm (by omega) (by omega)]; rfl
    obtain ⟨_, ⟨_, v0a, v0b⟩, ⟨_, v1a, v1b⟩, ⟨_, v2a, v2b⟩⟩ := right_b hr hi
    have hM : i * 6 + 3 + 3 ≤ M := by omega
    have e3 : g (6 * i + 3) = f (6 * i + 3) := k3 _ (by omega)
    have e4 : g (6 * i + 4) = f (6 * i + 4) := k3 _ (by omega)
    have e5 : g (6 * i + 5) = f (6 * i + 5) := k3 _ (by omega)
    have hv := fa_vec3 (M := M) (g := tnF g i) (i := i) (by omega)
    rw [tnF_at (by omega), tnF_at (by omega), tnF_at (by omega)] at hv
    have bq3 : Int.bmod (-(g (6 * i + 3))) 18446744073709551616 = -(g (6 * i + 3)) := bm (by omega) (by omega)
    have bq4 : Int.bmod (-(g (6 * i + 4))) 18446744073709551616 = -(g (6 * i + 4)) := bm (by omega) (by omega)
    have bq5 : Int.bmod (-(g (6 * i + 5))) 18446744073709551616 = -(g (6 * i + 5)) := bm (by omega) (by omega)
    unfold tnSt stB'
    repeat' (first | apply gwS | simp only [wN, wM, Nat.reduceAdd, Nat.reduceMul] | ((first | refine gwR [] ?_ | refine gwD [] ?_); intro Q hQ hP; simp [hC, hY, hi1, hz, hs', hv, hM, bq3, bq4, bq5]; (first | refine hQ _ _ _ _ (by kernel_rfl) ?_ | refine hP _ _ (by kernel_rfl) fun _ => ?_); clear hQ hP Q) | apply gwB | apply gwT | apply gwK | apply gwE | apply gwG | apply gwL | simp only [blockG_exit] | (refine gwC ?_ ?_ <;> (intro hb; first | (cases hb; done) | skip)))
    refine weakL _ 500 hC G0F (m0 := [(100, b)]) hC0 (by omega) ?_ ?_ ?_
    · simp [idsV, idsA, idsF, ids0, dom, hs']
    · have hput := tput_row (g := g) (i := i) k2 hi
      simp [hput, stB', ids_lit, idsF, ids0, dom, hid, Blk.fx_ids (fa_fx _ _ _)]
    · simp
  · unfold tnSt stB'
    repeat' (first | apply gwS | simp only [wN, wM, Nat.reduceAdd, Nat.reduceMul] | ((first | refine gwR [] ?_ | refine gwD [] ?_); intro Q hQ hP; simp [hC, hY]; (first | refine hQ _ _ _ _ (by kernel_rfl) ?_ | refine hP _ _ (by kernel_rfl) fun _ => ?_); clear hQ hP Q) | apply gwB | apply gwT | apply gwK | apply gwE | apply gwG | apply gwL | simp only [blockG_exit] | (refine gwC ?_ ?_ <;> (intro hb; first | (cases hb; done) | skip)))
    refine ⟨.inr trivial, keep_of G0F (by simp) (by (intro k hk; first | rfl | (simp (disch := omega) only [addB, List.mem_cons, List.not_mem_nil, or_false, upd_other, hpL_cons, hpL_nil, if_neg, updL] <;> done))), _, _, fun k => if k = 1000 then 224 else k, ⟨c, M, tnF g n, k1, k2, tnF_congr k3, rfl, rfl⟩, fun k hk => if_neg (by omega), by simp, by simp, by simp [Tryd.results16, ren, renA, renF, ren0], ?_⟩
    simp [fa_rn]
theorem right_iff {st : Int} {f : Nat → Int} {n : Nat} : rightB st f n = true ↔ stB st = true ∧ (1 ≤ n ∧ n ≤ 4) ∧ ∀ i, i < n → inB 1048576 65536 f i = true := by
  unfold rightB
  simp only [Bool.and_eq_true, decide_eq_true_eq, allB_iff]
  exact ⟨fun h => ⟨h.1.1, h.1.2, h.2⟩, fun h => ⟨⟨h.1, h.2.1⟩, h.2.2⟩⟩
def d2F (f : Nat → Int) (i k : Nat) : Int := (f (6 * i) - f (6 * k)) * (f (6 * i) - f (6 * k)) + (f (6 * i + 1) - f (6 * k + 1)) * (f (6 * i + 1) - f (6 * k + 1)) + (f (6 * i + 2) - f (6 * k + 2)) * (f (6 * i + 2) - f (6 * k + 2))
theorem sq_sym (a b : Int) : (a - b) * (a - b) = (b - a) * (b - a) := by
  rw [show a - b = -(b - a) by omega, Int.neg_mul_neg]
theorem d2F_sym (f : Nat → Int) (i k : Nat) : d2F f i k = d2F f k i := by
  unfold d2F
  rw [sq_sym (f (6 * i)), sq_sym (f (6 * i + 1)), sq_sym (f (6 * i + 2))]
theorem f2V_plain {a0 a1 a2 b0 b1 b2 : Int} (h : inW 1048576 a0 ∧ inW 1048576 a1 ∧ inW 1048576 a2) (k : inW 1048576 b0 ∧ inW 1048576 b1 ∧ inW 1048576 b2) : f2V a0 a1 a2 b0 b1 b2 = (a0 - b0) * (a0 - b0) + (a1 - b1) * (a1 - b1) + (a2 - b2) * (a2 - b2) := by
  have e : f2E a0 a1 a2 b0 b1 b2 = 0 := by
    unfold f2E eaE subI fnI
    unfold inW at h k
    rw [if_pos (by omega)]
  unfold f2V
  rw [if_pos e]
theorem esq_d2 {st : Int} {fs : Nat → Int} {n : Nat} (hr : rightB st fs n = true) {i k : Nat} (hi : i < n) (hk : k < n) : esqF fs i k = d2F fs i k := f2V_plain (right_b hr hi).1 (right_b hr hk).1
theorem pot_d2 {st g : Int} {fm fs : Nat → Int} {n : Nat} (hr : rightB st fs n = true) : potLo g fm fs n = sum2 (fun i k => enLo g (fm i) (fm k) (d2F fs i k)) n ∧ potHi g fm fs n = sum2 (fun i k => enHi g (fm i) (fm k) (d2F fs i k)) n ∧ potZ fs n = sum2 (fun i k => if d2F fs i k = 0 then 1 else 0) n := by
  refine ⟨sum2_congr fun i k h1 h2 => ?_, sum2_congr fun i k h1 h2 => ?_, sum2_congr fun i k h1 h2 => ?_⟩ <;> rw [esq_d2 hr h2 (by omega)]
theorem enV_congr {n : Nat} {fm fm' fs fs' : Nat → Int} {g bx tp nr md st st' : Int} (c : cfOk n fm g bx tp nr md = true) (c' : cfOk n fm' g bx tp nr md = true) (r : rightB st fs n = true) (r' : rightB st' fs' n = true) (hk : kinV fm' fs' n = kinV fm fs n) (hl : potLo g fm' fs' n = potLo g fm fs n) (hh : potHi g fm' fs' n = potHi g fm fs n) (hz : potZ fs' n = potZ fs n) : enV n n fm' fs' g bx tp nr md st' = enV n n fm fs g bx tp nr md st := by
  unfold enV enE potE eLo eHi
  rw [c, c', r, r', hk, hl, hh, hz]
def swF (f : Nat → Int) (a b : Nat) : Nat → Int := fun j => f (6 * sw a b (j / 6) + j % 6)
theorem swF_0 (f : Nat → Int) (a b i : Nat) : swF f a b (6 * i) = f (6 * sw a b i) := by
  unfold swF
  rw [show 6 * i / 6 = i by omega, show 6 * i % 6 = 0 by omega]
  rfl
theorem swF_u (f : Nat → Int) (a b i : Nat) {u : Nat} (hu : u < 6) : swF f a b (6 * i + u) = f (6 * sw a b i + u) := by
  unfold swF
  rw [show (6 * i + u) / 6 = i by omega, show (6 * i + u) % 6 = u by omega]
theorem right_sw {st : Int} {f : Nat → Int} {n a b : Nat} (h : rightB st f n = true) (ha : a < n) (hb : b < n) : rightB st (swF f a b) n = true := by
  obtain ⟨h1, h2, h3⟩ := right_iff.1 h
  refine right_iff.2 ⟨h1, h2, fun i hi => ?_⟩
  have := h3 (sw a b i) (sw_lt ha hb hi)
  unfold inB at this ⊢
  rw [swF_0, swF_u _ _ _ _ (by omega), swF_u _ _ _ _ (by omega), swF_u _ _ _ _ (by omega), swF_u _ _ _ _ (by omega), swF_u _ _ _ _ (by omega)]
  exact this
theorem cfOk_sw {n : Nat} {f : Nat → Int} {g bx tp nr md : Int} {a b : Nat} (h : cfOk n f g bx tp nr md = true) (ha : a < n) (hb : b < n) : cfOk n (fun i => f (sw a b i)) g bx tp nr md = true := by
  unfold cfOk at h ⊢
  rw [Bool.and_eq_true, Bool.and_eq_true] at h ⊢
  exact ⟨h.1, allM_iff.2 fun i hi => allM_iff.1 h.2.1 _ (sw_lt ha hb hi), h.2.2⟩
theorem d2F_sw (f : Nat → Int) (a b i k : Nat) : d2F (swF f a b) i k = d2F f (sw a b i) (sw a b k) := by
  unfold d2F
  rw [swF_0, swF_0, swF_u _ _ _ _ (by omega), swF_u _ _ _ _ (by omega), swF_u _ _ _ _ (by omega), swF_u _ _ _ _ (by omega)]
theorem enV_sw {n : Nat} {fm fs : Nat → Int} {g bx tp nr md st : Int} (c : cfOk n fm g bx tp nr md = true) (r : rightB st fs n = true) {a b : Nat} (ha : a < n) (hb : b < n) : enV n n (fun i => fm (sw a b i)) (swF fs a b) g bx tp nr md st = enV n n fm fs g bx tp nr md st := by
  have r' := right_sw r ha hb
  obtain ⟨e1, e2, e3⟩ := pot_d2 (g := g) (fm := fm) r
  obtain ⟨f1, f2, f3⟩ := pot_d2 (g := g) (fm := fun i => fm (sw a b i)) r'
  refine enV_congr c (cfOk_sw c ha hb) r r' ?_ ?_ ?_ ?_
  · unfold kinV
    congr 1
    rw [← sumN_sw (kinF fm fs) ha hb]
    refine sumN_congr fun i hi => ?_
    unfold kinF
    rw [swF_u _ _ _ _ (by omega), swF_u _ _ _ _ (by omega), swF_u _ _ _ _ (by omega)]
  · rw [e1, f1]
    simp only [d2F_sw]
    exact sum2_sw (fun i k => enLo g (fm i) (fm k) (d2F fs i k)) (fun i k => by rw [d2F_sym, (en_swap g (fm i) (fm k) _).1]) ha hb
  · rw [e2, f2]
    simp only [d2F_sw]
    exact sum2_sw (fun i k => enHi g (fm i) (fm k) (d2F fs i k)) (fun i k => by rw [d2F_sym, (en_swap g (fm i) (fm k) _).2]) ha hb
  · rw [e3, f3]
    simp only [d2F_sw]
    exact sum2_sw (fun i k => if d2F fs i k = 0 then 1 else 0) (fun i k => by rw [d2F_sym]) ha hb
theorem tnF_lo {f : Nat → Int} {n i u : Nat} (hu : u < 3) : tnF f n (6 * i + u) = f (6 * i + u) := by
  unfold tnF
  rw [if_neg (by omega)]
theorem tnF_hi {f : Nat → Int} {n i u : Nat} (hi : i < n) (h3 : 3 ≤ u) (hu : u < 6) : tnF f n (6 * i + u) = -(f (6 * i + u)) := by
  unfold tnF
  rw [if_pos (by omega)]
theorem inW_neg {m a : Int} (h : inW m a) : inW m (-a) := by
  unfold inW at *
  omega
theorem right_tn {st : Int} {f : Nat → Int} {n : Nat} (h : rightB st f n = true) : rightB (-st) (tnF f n) n = true := by
  obtain ⟨h1, h2, h3⟩ := right_iff.1 h
  refine right_iff.2 ⟨?_, h2, fun i hi => ?_⟩
  · unfold stB at h1 ⊢
    simp only [decide_eq_true_eq] at h1 ⊢
    omega
  · have := h3 i hi
    unfold inB at this ⊢
    rw [Bool.and_eq_true, inV_iff, inV_iff] at this ⊢
    have e0 := tnF_lo (f := f) (n := n) (i := i) (u := 0) (by omega)
    rw [Nat.add_zero] at e0
    rw [e0, tnF_lo (by omega), tnF_lo (by omega), tnF_hi hi (by omega) (by omega), tnF_hi hi (by omega) (by omega), tnF_hi hi (by omega) (by omega)]
    exact ⟨this.1, inW_neg this.2.1, inW_neg this.2.2.1, inW_neg this.2.2.2⟩
theorem d2F_tn (f : Nat → Int) (n i k : Nat) : d2F (tnF f n) i k = d2F f i k := by
  have e : ∀ j, tnF f n (6 * j) = f (6 * j) := fun j => by
    have e0 := tnF_lo (f := f) (n := n) (i := j) (u := 0) (by omega)
    rwa [Nat.add_zero] at e0
  unfold d2F
  rw [e, e, tnF_lo (by omega), tnF_lo (by omega), tnF_lo (by omega), tnF_lo (by omega)]
theorem enV_tn {n : Nat} {fm fs : Nat → Int} {g bx tp nr md st : Int} (c : cfOk n fm g bx tp nr md = true) (r : rightB st fs n = true) : enV n n fm (tnF fs n) g bx tp nr md (-st) = enV n n fm fs g bx tp nr md st := by
  have r' := right_tn r
  obtain ⟨e1, e2, e3⟩ := pot_d2 (g := g) (fm := fm) r
  obtain ⟨f1, f2, f3⟩ := pot_d2 (g := g) (fm := fm) r'
  refine enV_congr c c r r' ?_ ?_ ?_ ?_
  · unfold kinV
    congr 1
    refine sumN_congr fun i hi => ?_
    unfold kinF
    congr 1
    have h := (right_b r hi).2
    have h' := (right_b r' hi).2
    rw [(dtV_in h.1 h.2.1 h.2.2).1, (dtV_in h'.1 h'.2.1 h'.2.2).1, tnF_hi hi (by omega) (by omega), tnF_hi hi (by omega) (by omega), tnF_hi hi (by omega) (by omega), Int.neg_mul_neg, Int.neg_mul_neg, Int.neg_mul_neg]
  · rw [e1, f1]; simp only [d2F_tn]
  · rw [e2, f2]; simp only [d2F_tn]
  · rw [e3, f3]; simp only [d2F_tn]
def shF (f w : Nat → Int) (n j i : Nat) : Nat → Int := fun q => if (q / 6 < n ∧ q % 6 < j) ∨ (q % 6 = j ∧ q / 6 < i) then f q + w (q % 6) else f q
theorem shF_0 (f w : Nat → Int) (n : Nat) : shF f w n 0 0 = f := by
  funext q
  unfold shF
  rw [if_neg (by omega)]
theorem shF_next (f w : Nat → Int) (n j : Nat) : shF f w n j n = shF f w n (j + 1) 0 := by
  funext q
  unfold shF
  by_cases h : (q / 6 < n ∧ q % 6 < j) ∨ (q % 6 = j ∧ q / 6 < n)
  · rw [if_pos h, if_pos (by omega)]
  · rw [if_neg h, if_neg (by omega)]
theorem shF_old (f w : Nat → Int) {n j i : Nat} (hj : j < 3) : shF f w n j i (6 * i + j) = f (6 * i + j) := by
  unfold shF
  rw [if_neg (by omega)]
theorem shF_put (f w : Nat → Int) {n j i : Nat} (hj : j < 3) : upd (shF f w n j i) (6 * i + j) (f (6 * i + j) + w j) = shF f w n j (i + 1) := by
  funext q
  unfold upd shF
  by_cases h : q = 6 * i + j
  · subst h
    rw [if_pos rfl, if_pos (by omega), show (6 * i + j) % 6 = j by omega]
  · rw [if_neg h]
    by_cases h1 : (q / 6 < n ∧ q % 6 < j) ∨ (q % 6 = j ∧ q / 6 < i)
    · rw [if_pos h1, if_pos (by omega)]
    · rw [if_neg h1, if_neg (by omega)]
theorem shF_congr {f f' w : Nat → Int} {n j i : Nat} (h : ∀ q, q < 6 * n → f q = f' q) : ∀ q, q < 6 * n → shF f w n j i q = shF f' w n j i q := fun q hq => by
  unfold shF
  rw [h q hq]
theorem shF_lo (f w : Nat → Int) {n i u : Nat} (hi : i < n) (hu : u < 3) : shF f w n 3 0 (6 * i + u) = f (6 * i + u) + w u := by
  unfold shF
  rw [if_pos (by omega), show (6 * i + u) % 6 = u by omega]
theorem shF_hi (f w : Nat → Int) {n i u : Nat} (hu : 3 ≤ u) (hu6 : u < 6) : shF f w n 3 0 (6 * i + u) = f (6 * i + u) := by
  unfold shF
  rw [if_neg (by omega)]
theorem d2F_sh (f w : Nat → Int) {n i k : Nat} (hi : i < n) (hk : k < n) : d2F (shF f w n 3 0) i k = d2F f i k := by
  have e : ∀ j, j < n → shF f w n 3 0 (6 * j) = f (6 * j) + w 0 := fun j hj => by
    have e0 := shF_lo f w (n := n) (i := j) (u := 0) hj (by omega)
    rwa [Nat.add_zero] at e0
  unfold d2F
  rw [e i hi, e k hk, shF_lo f w hi (by omega), shF_lo f w hi (by omega), shF_lo f w hk (by omega), shF_lo f w hk (by omega)]
  rw [show ∀ a b c : Int, a + c - (b + c) = a - b from fun a b c => by omega, show ∀ a b c : Int, a + c - (b + c) = a - b from fun a b c => by omega, show ∀ a b c : Int, a + c - (b + c) = a - b from fun a b c => by omega]
theorem enV_sh {n : Nat} {fm fs w : Nat → Int} {g bx tp nr md st : Int} (c : cfOk n fm g bx tp nr md = true) (r : rightB st fs n = true) (r' : rightB st (shF fs w n 3 0) n = true) : enV n n fm (shF fs w n 3 0) g bx tp nr md st = enV n n fm fs g bx tp nr md st := by
  obtain ⟨e1, e2, e3⟩ := pot_d2 (g := g) (fm := fm) r
  obtain ⟨f1, f2, f3⟩ := pot_d2 (g := g) (fm := fm) r'
  refine enV_congr c c r r' ?_ ?_ ?_ ?_
  · unfold kinV
    congr 1
    refine sumN_congr fun i hi => ?_
    unfold kinF
    rw [shF_hi fs w (by omega) (by omega), shF_hi fs w (by omega) (by omega), shF_hi fs w (by omega) (by omega)]
  · rw [e1, f1]; exact sum2_congr fun i k h1 h2 => by rw [d2F_sh fs w h2 (by omega)]
  · rw [e2, f2]; exact sum2_congr fun i k h1 h2 => by rw [d2F_sh fs w h2 (by omega)]
  · rw [e3, f3]; exact sum2_congr fun i k h1 h2 => by rw [d2F_sh fs w h2 (by omega)]
def put6 (f : Nat → Int) (o : Nat) (v : Nat → Int) : Nat → Int := fun j => if o ≤ j ∧ j < o + 6 then v (j - o) else f j
theorem put6_upd (f : Nat → Int) (o : Nat) (v : Nat → Int) : upd (upd (upd (upd (upd (upd f o (v 0)) (o + 1) (v 1)) (o + 2) (v 2)) (o + 3) (v 3)) (o + 4) (v 4)) (o + 5) (v 5) = put6 f o v := by
  funext j
  unfold upd put6
  by_cases h : o ≤ j ∧ j < o + 6
  · rw [if_pos h]
    have : j = o ∨ j = o + 1 ∨ j = o + 2 ∨ j = o + 3 ∨ j = o + 4 ∨ j = o + 5 := by omega
    rcases this with rfl | rfl | rfl | rfl | rfl | rfl <;> simp
  · rw [if_neg h, if_neg (by omega), if_neg (by omega), if_neg (by omega), if_neg (by omega), if_neg (by omega), if_neg (by omega)]
theorem put6_sw {f g : Nat → Int} {n a b : Nat} (ha : a < n) (hb : b < n) (h : ∀ j, j < 6 * n → g j = f j) : ∀ j, j < 6 * n → put6 (put6 g (6 * a) fun u => f (6 * b + u)) (6 * b) (fun u => f (6 * a + u)) j = swF f a b j := fun j hj => by
  unfold put6 swF sw
  by_cases h1 : 6 * b ≤ j ∧ j < 6 * b + 6
  · rw [if_pos h1]
    by_cases e : j / 6 = a
    · rw [if_pos e]
      exact congrArg f (by omega)
    · rw [if_neg e, if_pos (by omega)]
      exact congrArg f (by omega)
  · rw [if_neg h1]
    by_cases h2 : 6 * a ≤ j ∧ j < 6 * a + 6
    · rw [if_pos h2, if_pos (by omega)]
      exact congrArg f (by omega)
    · rw [if_neg h2, if_neg (by omega), if_neg (by omega), h j hj]
      exact congrArg f (by omega)
theorem put1_sw {f g : Nat → Int} {n a b : Nat} (ha : a < n) (hb : b < n) (h : ∀ j, j < n → g j = f j) : ∀ j, j < n → upd (upd g a (f b)) b (f a) j = f (sw a b j) := fun j hj => by
  unfold upd sw
  by_cases h1 : j = b
  · rw [if_pos h1]
    by_cases e : j = a
    · rw [if_pos e, ← e, h1]
    · rw [if_neg e, if_pos h1]
  · rw [if_neg h1]
    by_cases h2 : j = a
    · rw [if_pos h2, if_pos h2]
    · rw [if_neg h2, if_neg h2, if_neg h1, h j hj]
theorem own_sb {n M : Nat} {g F : Nat → Int} (hM : 6 * n ≤ M) (hg : ∀ j, j < 6 * n → g j = F j) (hF : ∀ j, j < 6 * n → i64 (F j)) (hn : n ≤ 2932031007402) : SB ⟨fa M .i64 g, .ty 46⟩ 0 n F :=
  ⟨fun j hj => by rw [← hg j hj]; exact rdI_fa M g _ j (by omega), fa_fx _ _ _, hF, hn⟩
theorem own_mb {n M : Nat} {g F : Nat → Int} (hM : n ≤ M) (hg : ∀ j, j < n → g j = F j) (hF : ∀ j, j < n → i64 (F j)) (hn : n ≤ 17592186044416) : MB ⟨fa M .i64 g, .ty 3⟩ 0 n F :=
  ⟨fun j hj => by rw [← hg j hj]; exact rdI_fa M g _ j (by omega), fa_fx _ _ _, hF, hn⟩
theorem rem_in (t : Int) {n : Nat} (hn : 1 ≤ n ∧ n ≤ 4) : ∃ a : Nat, a < n ∧ (Int.bmod (Int.tmod t n + n) 18446744073709551616).tmod n = a := by
  have h1 := Int.tmod_lt_of_pos t (b := (n : Int)) (by omega)
  have h2 := Int.lt_tmod_of_pos t (b := (n : Int)) (by omega)
  generalize Int.tmod t n = u at *
  rw [bm (by omega) (by omega), Int.tmod_eq_emod_of_nonneg (by omega)]
  have h3 := Int.emod_nonneg (u + n) (b := (n : Int)) (by omega)
  have h4 := Int.emod_lt_of_pos (u + n) (b := (n : Int)) (by omega)
  exact ⟨((u + n) % (n : Int)).toNat, by omega, by omega⟩
def OwnC (nk n : Nat) (f : Nat → Int) (g bx tp nr md : Int) (v : Value) (ns : List (Nat × Blk)) : Prop := ∃ (c M : Nat) (h : Nat → Int), n ≤ c ∧ n ≤ M ∧ (∀ j, j < n → h j = f j) ∧ v = cfV (.slice (some ⟨nk, 0, none⟩) n c) g bx tp nr md ∧ ns = [(nk, ⟨fa M .i64 h, .ty 3⟩)]
theorem ownc_fit {b : Blk} {n : Nat} {f : Nat → Int} {g bx tp nr md : Int} (v : Value) (ns : List (Nat × Blk)) (h : OwnC 1000 n f g bx tp nr md v ns) : idsV (extD (fun k => k ∈ keys [(100, b)]) ns) v ∧ (∀ p ∈ ns, 200 ≤ p.1 ∧ p.2.ids (extD (fun k => k ∈ keys [(100, b)]) ns)) ∧ (∀ k b c, (k, b) ∈ ns → (k, c) ∈ ns → b = c) := by
  obtain ⟨c, M, h, h1, h2, h3, rfl, rfl⟩ := h
  refine ⟨by simp [cfV, idsV, idsA, idsF, ids0, extD, keys], ?_, ?_⟩
  · simp only [List.mem_singleton, forall_eq]
    exact ⟨by omega, Blk.fx_ids (fa_fx _ _ _) _⟩
  · intro k b c h1 h2
    simp at h1 h2
    rw [h1.2, h2.2]
set_option maxHeartbeats 1000000 in
theorem own11_fun (b : Blk) (off n cap : Nat) (f : Nat → Int) (h : MB b off n f) (hcap : n ≤ cap) (g bx tp nr md : Int) :
    FunS Tryd.prog G0 14 #[cfV (.slice (some ⟨100, off, none⟩) n cap) g bx tp nr md] (hpL G0 [(100, b)]) (keys [(100, b)]) (OwnC 1000 n f g bx tp nr md) := by
  refine newS_ofL (B := 200) G0F Tryd.func14 rfl Tryd.call14 (oneL_ok h.fx) ?_ ownc_fit (by simp [Tryd.ntmps14]) (by omega) ?_
  · simp [idsV, idsA, idsF, ids0, keys, cfV]
  intro C hC hC0 hY
  have hnn := h.nn
  have hbrd := Blk.fx_rd h.fx
  unfold cfV
  repeat' (first | apply gwS | simp only [wN, wM, Nat.reduceAdd, Nat.reduceMul] | ((first | refine gwR [] ?_ | refine gwD [] ?_); intro Q hQ hP; simp [hC, hY]; (first | refine hQ _ _ _ _ (by kernel_rfl) ?_ | refine hP _ _ (by kernel_rfl) fun _ => ?_); clear hQ hP Q) | apply gwB | apply gwT | apply gwK | apply gwE | apply gwG | apply gwL | simp only [blockG_exit] | (refine gwC ?_ ?_ <;> (intro hb; first | (cases hb; done) | skip)))
  refine GW_list ?_
  simp only [Array.toList]
  refine GL_bs0 rfl (by simp) rfl Tryd.underlying34 (tySize_of Tryd.sizeOf3) ?_
  refine GL_walk 2 [] rfl (by simp) (by kernel_rfl) ?_; intro q hq; simp [hC, hY]; refine hq _ _ _ _ ?_; clear hq q
  simp only [wT, List.length_cons, List.length_nil, Nat.reduceAdd]
  by_cases hn0 : n = 0
  · subst hn0
    refine GL_appZ (p := some (216, 0)) (q := some (100, off)) rfl (by simp) rfl Tryd.underlying34 (tySize_of Tryd.sizeOf3) (by simp; try rfl) (by simp; try rfl) (Nat.le_refl _) ?_
    refine GL_walk 2 [] rfl (by simp) (by kernel_rfl) ?_; intro q hq; simp [hC, hY, putT]; refine hq _ _ _ _ ?_; clear hq q
    simp only [wT, List.length_cons, List.length_nil, Nat.reduceAdd]
    refine GL_nil ?_
    repeat' (first | apply gwS | simp only [wN, wM, Nat.reduceAdd, Nat.reduceMul] | ((first | refine gwR [] ?_ | refine gwD [] ?_); intro Q hQ hP; simp [hC, hY]; (first | refine hQ _ _ _ _ (by kernel_rfl) ?_ | refine hP _ _ (by kernel_rfl) fun _ => ?_); clear hQ hP Q) | apply gwB | apply gwT | apply gwK | apply gwE | apply gwG | apply gwL | simp only [blockG_exit] | (refine gwC ?_ ?_ <;> (intro hb; first | (cases hb; done) | skip)))
    refine ⟨.inr trivial, keep_of G0F (by simp) (by (intro k hk; first | rfl | (simp (disch := omega) only [addB, List.mem_cons, List.not_mem_nil, or_false, upd_other, hpL_cons, hpL_nil, if_neg, updL] <;> done))), _, _, fun k => if k = 1000 then 216 else k, ⟨0, 0, f, Nat.le_refl _, by omega, fun _ _ => rfl, rfl, rfl⟩, fun k hk => if_neg (by omega), by simp, by simp, by simp [Tryd.results14, cfV, ren, renA, renF, ren0], ?_⟩
    simp [fa, Blk.rn]
  · refine GL_app0 (p := some ⟨216, 0, none⟩) (j := 100) (b2 := b) (off2 := off) (m := n) (m' := cap) (nw := (fa n .i64 f).toList) (sz := 1) (by' := 8) (z := .int .i64 0) rfl (by simp) rfl Tryd.underlying34 (tySize_of Tryd.sizeOf3) ?_ ?_ ?_ ?_ ?_ (rdI_nw h.rd) fa_list_flat (fun q x hx => ?_) (by omega) (by simp) (by unfold maxLen; omega) (by omega) (fun cap' hc' => ?_)
    · kernel_rfl
    · kernel_rfl
    · simp
    · simp
    · simp
    · have := zc_mem hx
      simp [Value.cells] at this
      subst this
      rfl
    · rw [zeros_fa (k := .i64) (by simp [Value.cells]), app_new]
      refine GL_walk 2 [] rfl (by simp) (by kernel_rfl) ?_; intro q hq; simp [hC, hY, putT]; refine hq _ _ _ _ ?_; clear hq q
      simp only [wT, List.length_cons, List.length_nil, Nat.reduceAdd]
      refine GL_nil ?_
      repeat' (first | apply gwS | simp only [wN, wM, Nat.reduceAdd, Nat.reduceMul] | ((first | refine gwR [] ?_ | refine gwD [] ?_); intro Q hQ hP; simp [hC, hY]; (first | refine hQ _ _ _ _ (by kernel_rfl) ?_ | refine hP _ _ (by kernel_rfl) fun _ => ?_); clear hQ hP Q) | apply gwB | apply gwT | apply gwK | apply gwE | apply gwG | apply gwL | simp only [blockG_exit] | (refine gwC ?_ ?_ <;> (intro hb; first | (cases hb; done) | skip)))
      refine ⟨.inr trivial, keep_of G0F (by simp) (by (intro k hk; first | rfl | (simp (disch := omega) only [addB, List.mem_cons, List.not_mem_nil, or_false, upd_other, hpL_cons, hpL_nil, if_neg, updL] <;> done))), _, _, fun k => if k = 1000 then 216 + 24 else k, ⟨cap', n + (cap' - n) * 1, catN f n 0 f, hc', ?_, ?_, rfl, rfl⟩, fun k hk => if_neg (by omega), by simp, by simp, by simp [Tryd.results14, cfV, ren, renA, renF, ren0], ?_⟩
      · omega
      · intro j hj
        unfold catN
        rw [if_pos (by omega)]
      · simp only [List.mem_singleton, forall_eq]
        rw [fa_rn]
        simp [Value.cells]
def r2n (a nk k : Nat) : Nat := if k = 100 then a else if k = 1000 then nk else k
theorem r2n_a {a nk : Nat} : r2n a nk 100 = a := rfl
theorem r2n_k {a nk : Nat} : r2n a nk 1000 = nk := rfl
theorem r2n_low {a nk : Nat} (k : Nat) (h : k < 100) : r2n a nk k = k := by
  unfold r2n
  rw [if_neg (by omega), if_neg (by omega)]
theorem FunS.own2 {fn : FuncId} {args args' : Array Value} {b : Blk} {R R' : Value → List (Nat × Blk) → Prop} (h : FunS Tryd.prog G0 fn args (hpL G0 [(100, b)]) (keys [(100, b)]) R) (hb : b.fx) (a nk : Nat) (ha : 100 ≤ a) (hk : 100 ≤ nk) (hne : a ≠ nk) (hR : ∀ v ns, R v ns → ∀ k ∈ keys ns, k = 1000) (ea : args.map (ren (r2n a nk)) = args') (eR : RR (r2n a nk) R = R') :
    FunS Tryd.prog G0 fn args' (hpL G0 [(a, b)]) [a] R' := by
  refine h.mvL G0F (oneL_ok hb) (r2n a nk) r2n_low ea (by simp [keys, r2n_a]) eR (fun k hk => ?_) ?_ (by simp [keys]) (fun v ns hV k hk => ?_) (fun v ns hV k hk l hl _ => by rw [hR v ns hV k hk, hR v ns hV l hl])
  · rw [hpL_cons, if_neg (by omega)]
    rfl
  · simp only [List.mem_singleton, forall_eq]
    rw [Blk.fx_rn hb, r2n_a]
    exact ⟨ha, by simp⟩
  · rw [hR v ns hV k hk, r2n_k]
    simp
    exact ⟨by omega, fun e => hne e.symm⟩
theorem ownS_rr2 {nk : Nat} {ρ : Nat → Nat} (h : ρ 1000 = nk) (st : Int) (n : Nat) (f : Nat → Int) : RR ρ (OwnS 1000 st n f) = OwnS nk st n f := by
  funext v ns
  apply propext
  constructor
  · rintro ⟨v0, ns0, ⟨c, M, g, h1, h2, h3, rfl, rfl⟩, rfl, rfl⟩
    exact ⟨c, M, g, h1, h2, h3, by simp [ren, renA, renF, ren0, h], by simp [rnL, fa_rn, h]⟩
  · rintro ⟨c, M, g, h1, h2, h3, rfl, rfl⟩
    exact ⟨_, _, ⟨c, M, g, h1, h2, h3, rfl, rfl⟩, by simp [ren, renA, renF, ren0, h], by simp [rnL, fa_rn, h]⟩
theorem ownC_rr2 {nk : Nat} {ρ : Nat → Nat} (h0 : ρ 1000 = nk) (n : Nat) (f : Nat → Int) (g bx tp nr md : Int) : RR ρ (OwnC 1000 n f g bx tp nr md) = OwnC nk n f g bx tp nr md := by
  funext v ns
  apply propext
  constructor
  · rintro ⟨v0, ns0, ⟨c, M, h, h1, h2, h3, rfl, rfl⟩, rfl, rfl⟩
    exact ⟨c, M, h, h1, h2, h3, by simp [cfV, ren, renA, renF, ren0, h0], by simp [rnL, fa_rn, h0]⟩
  · rintro ⟨c, M, h, h1, h2, h3, rfl, rfl⟩
    exact ⟨_, _, ⟨c, M, h, h1, h2, h3, rfl, rfl⟩, by simp [cfV, ren, renA, renF, ren0, h0], by simp [rnL, fa_rn, h0]⟩
theorem ownS_key {nk : Nat} {st : Int} {n : Nat} {f : Nat → Int} {v : Value} {ns : List (Nat × Blk)} (h : OwnS nk st n f v ns) : ∀ k ∈ keys ns, k = nk := fun k hk => by
  obtain ⟨c, M, g, h1, h2, h3, rfl, rfl⟩ := h
  simpa [keys] using hk
theorem ownC_key {nk : Nat} {n : Nat} {f : Nat → Int} {g bx tp nr md : Int} {v : Value} {ns : List (Nat × Blk)} (h : OwnC nk n f g bx tp nr md v ns) : ∀ k ∈ keys ns, k = nk := fun k hk => by
  obtain ⟨c, M, g, h1, h2, h3, rfl, rfl⟩ := h
  simpa [keys] using hk
theorem own10_nm (a nk : Nat) (ha : 100 ≤ a) (hk : 100 ≤ nk) (hne : a ≠ nk) (b : Blk) (off n cap : Nat) (f : Nat → Int) (h : SB b off n f) (hcap : n ≤ cap) (st : Int) :
    FunS Tryd.prog G0 13 #[.agg #[.int .i64 st, .slice (some ⟨a, off, none⟩) n cap]] (hpL G0 [(a, b)]) [a] (OwnS nk st n f) :=
  (own10_fun b off n cap f h hcap st).own2 h.fx a nk ha hk hne (fun v ns => ownS_key) (by simp [ren, renA, renF, ren0, r2n_a]) (ownS_rr2 r2n_k st n f)
theorem turned_nm (a nk : Nat) (ha : 100 ≤ a) (hk : 100 ≤ nk) (hne : a ≠ nk) (b : Blk) (off n cap : Nat) (f : Nat → Int) (h : SB b off n f) (hcap : n ≤ cap) (st : Int) (hr : rightB st f n = true) :
    FunS Tryd.prog G0 16 #[.agg #[.int .i64 st, .slice (some ⟨a, off, none⟩) n cap]] (hpL G0 [(a, b)]) [a] (OwnS nk (-st) n (tnF f n)) :=
  (turned_fun b off n cap f h hcap st hr).own2 h.fx a nk ha hk hne (fun v ns => ownS_key) (by simp [ren, renA, renF, ren0, r2n_a]) (ownS_rr2 r2n_k (-st) n (tnF f n))
theorem own11_nm (a nk : Nat) (ha : 100 ≤ a) (hk : 100 ≤ nk) (hne : a ≠ nk) (b : Blk) (off n cap : Nat) (f : Nat → Int) (h : MB b off n f) (hcap : n ≤ cap) (g bx tp nr md : Int) :
    FunS Tryd.prog G0 14 #[cfV (.slice (some ⟨a, off, none⟩) n cap) g bx tp nr md] (hpL G0 [(a, b)]) [a] (OwnC nk n f g bx tp nr md) :=
  (own11_fun b off n cap f h hcap g bx tp nr md).own2 h.fx a nk ha hk hne (fun v ns => ownC_key) (by simp [cfV, ren, renA, renF, ren0, r2n_a]) (ownC_rr2 r2n_k n f g bx tp nr md)
end Go.Gy
