/-
  Lemmas of this claim, in their order (GyT2, GyU1, GyH2, GyU2, GyU3, GyU4).
  Conditions: those of each theorem.
-/
import Derived.Test.YtggidgaeggekhaaDoorGz05
import Derived.Stop.LaidErr
namespace Go.Gy
open Go Go.RowKit
section
variable {P : Program} {G : Hp}
theorem idsA_rn {ρ : Nat → Nat} {D D' : Nat → Prop} (h : ∀ k, D k → D' (ρ k)) {v : Value} (hv : idsA D v) : idsA D' (renA ρ v) := by
  cases v with
  | agg cs =>
    intro x hx
    obtain ⟨y, hy, rfl⟩ := Array.mem_map.1 hx
    exact idsF_rn h (hv y hy)
  | func f a b => exact idsF_rn (v := .func f a b) h hv
  | iface t v => exact idsF_rn (v := .iface t v) h hv
  | pointer p => cases p <;> first | exact h _ hv | trivial
  | slice p _ _ => cases p <;> first | exact h _ hv | trivial
  | map p => cases p <;> first | exact h _ hv | trivial
  | _ => trivial
theorem idsV_rn {ρ : Nat → Nat} {D D' : Nat → Prop} (h : ∀ k, D k → D' (ρ k)) {v : Value} (hv : idsV D v) : idsV D' (ren ρ v) := by
  cases v with
  | tuple vs =>
    intro x hx
    obtain ⟨y, hy, rfl⟩ := Array.mem_map.1 hx
    exact idsA_rn h (hv y hy)
  | agg cs => exact idsA_rn (v := .agg cs) h hv
  | func f a b => exact idsA_rn (v := .func f a b) h hv
  | iface t v => exact idsA_rn (v := .iface t v) h hv
  | pointer p => cases p <;> first | exact h _ hv | trivial
  | slice p _ _ => cases p <;> first | exact h _ hv | trivial
  | map p => cases p <;> first | exact h _ hv | trivial
  | _ => trivial
theorem Rn.bflat {ρ : Nat → Nat} {hp : Hp} (hGF : GFlat G) (hG : ∀ k, k < 100 → hp k = G k) {k : Nat} {b : Blk} (hk : k < 100) (hb : hp k = some b) : b.rn ρ = b := by
  have hg : G k = some b := (hG k hk).symm.trans hb
  unfold Blk.rn
  rw [map_eq_self (fun x hx => flatF_ren ((hGF k b hg).2 x hx))]
theorem Rn.back {ρ : Nat → Nat} {hp hp' : Hp} {rs : List Nat} (hGF : GFlat G) (hG : ∀ k, k < 100 → hp k = G k) (h : Rn ρ hp hp' rs) (k : Nat) (b : Blk) (hb : rst hp' (rs.map ρ) k = some b) : ∃ q c, rst hp rs q = some c ∧ ρ q = k ∧ b = c.rn ρ := by
  unfold rst at hb
  by_cases h1 : k < 100
  · simp only [h1, true_or, if_true] at hb
    have hl := h.low k h1
    rw [hl.2] at hb
    exact ⟨k, b, by simp [rst, h1, hb], hl.1, (Rn.bflat hGF hG h1 hb).symm⟩
  · by_cases hm : k ∈ rs.map ρ
    · obtain ⟨q, hq, rfl⟩ := List.mem_map.1 hm
      simp only [hm, or_true, if_true] at hb
      have hq1 : 100 ≤ q := by
        by_cases hq1 : 100 ≤ q
        · exact hq1
        · exact absurd (by rw [(h.low q (by omega)).1]; omega) h1
      obtain ⟨c, e1, e2⟩ := h.at' q hq hq1
      rw [e2] at hb; cases hb
      exact ⟨q, c, by simp [rst, hq, e1], rfl, rfl⟩
    · simp [h1, hm] at hb
theorem Rn.mem {hp : Hp} {rs : List Nat} {k : Nat} (hk : dom (rst hp rs) k) (h1 : 100 ≤ k) : k ∈ rs := by
  unfold dom rst at hk
  by_cases hm : k ∈ rs
  · exact hm
  · simp [hm] at hk; omega
theorem Rn.sat {ρ : Nat → Nat} {hp hp' : Hp} {rs : List Nat} (hGF : GFlat G) (hG : ∀ k, k < 100 → hp k = G k) (h : Rn ρ hp hp' rs) (hcl : ∀ k b, rst hp rs k = some b → b.ids (dom (rst hp rs))) {r : Nat → Nat} {W : World}
    (hsat : Sat r (dom (rst hp' (rs.map ρ))) (rst hp' (rs.map ρ)) W) (hinj : Inj r (dom (rst hp' (rs.map ρ)))) (hlow : ∀ k, k < 100 → dom (rst hp' (rs.map ρ)) k → r k = k) :
    Sat (fun k => r (ρ k)) (dom (rst hp rs)) (rst hp rs) W ∧ Inj (fun k => r (ρ k)) (dom (rst hp rs)) ∧ ∀ k, k < 100 → dom (rst hp rs) k → r (ρ k) = k := by
  refine ⟨fun k b hk => ⟨?_, hcl k b hk⟩, fun k l hk hl e => ?_, fun k hk hd => ?_⟩
  · have hd : dom (rst hp rs) k := by unfold dom; rw [hk]; simp
    have hd' := h.dom1 hd
    unfold dom at hd'
    cases hb : rst hp' (rs.map ρ) (ρ k) with
    | none => exact absurd hb hd'
    | some b' =>
      have e : b' = b.rn ρ := by
        unfold rst at hb hk
        by_cases h1 : k < 100
        · have hl := h.low k h1
          simp only [h1, true_or, if_true] at hk
          rw [hl.1] at hb
          simp only [h1, true_or, if_true] at hb
          rw [hl.2, hk] at hb
          cases hb
          exact (Rn.bflat hGF hG h1 hk).symm
        · have hm : k ∈ rs := by
            by_cases hm : k ∈ rs
            · exact hm
            · simp [h1, hm] at hk
          simp only [hm, or_true, if_true] at hk
          obtain ⟨c, e1, e2⟩ := h.at' k hm (by omega)
          rw [hk] at e1; cases e1
          have hm' : ρ k ∈ rs.map ρ := List.mem_map.2 ⟨k, hm, rfl⟩
          simp only [hm', or_true, if_true] at hb
          rw [e2] at hb; cases hb; rfl
      have := (hsat _ b' hb).1
      rw [e, Blk.rn_obj] at this
      exact this
  · have e2 := hinj _ _ (h.dom1 hk) (h.dom1 hl) e
    by_cases h1 : k < 100
    · by_cases h2 : l < 100
      · rw [(h.low k h1).1, (h.low l h2).1] at e2; exact e2
      · have := h.big l (Rn.mem hl (by omega)) (by omega)
        rw [(h.low k h1).1] at e2; omega
    · by_cases h2 : l < 100
      · have := h.big k (Rn.mem hk (by omega)) (by omega)
        rw [(h.low l h2).1] at e2; omega
      · exact h.inj k (Rn.mem hk (by omega)) l (Rn.mem hl (by omega)) (by omega) (by omega) e2
  · have := h.dom1 hd
    rw [(h.low k hk).1] at this ⊢
    exact hlow k hk this
def rnL (ρ : Nat → Nat) (ws : List (Nat × Blk)) : List (Nat × Blk) := ws.map fun p => (ρ p.1, p.2.rn ρ)
theorem keys_rnL {ρ : Nat → Nat} {ws : List (Nat × Blk)} {k : Nat} (h : k ∈ keys (rnL ρ ws)) : ∃ q ∈ keys ws, ρ q = k := by
  simp only [keys, rnL, List.map_map, List.mem_map, Function.comp] at h ⊢
  obtain ⟨p, hp, rfl⟩ := h
  exact ⟨p.1, ⟨p, hp, rfl⟩, rfl⟩
/-- A contract under other names. -/
theorem Fun.rn {f : FuncId} {args : Array Value} {hp hp' : Hp} {rs : List Nat} {v : Value} {ws : List (Nat × Blk)} (ρ : Nat → Nat) (hGF : GFlat G) (hG : ∀ k, k < 100 → hp k = G k) (h : Rn ρ hp hp' rs) (hi : Fun P G f args hp rs (.ret v ws)) :
    Fun P G f (args.map (ren ρ)) hp' (rs.map ρ) (.ret (ren ρ v) (rnL ρ ws)) := by
  refine ⟨hi.enter, fun x hx => ?_, fun k b hb => ?_, ⟨idsV_rn (fun k hk => h.dom1 hk) hi.fits.1, fun k hk => ?_, fun k b c h1 h2 => ?_, fun p hp1 => ?_⟩, fun r W hgok hsat hinj hlow => ?_⟩
  · obtain ⟨y, hy, rfl⟩ := Array.mem_map.1 hx
    exact idsV_rn (fun k hk => h.dom1 hk) (hi.ids y hy)
  · obtain ⟨q, c, h1, rfl, rfl⟩ := h.back hGF hG k b hb
    intro x hx
    obtain ⟨y, hy, rfl⟩ := Array.mem_map.1 hx
    exact idsF_rn (fun k hk => h.dom1 hk) (hi.closed q c h1 y hy)
  · obtain ⟨q, hq, rfl⟩ := keys_rnL hk
    have h1 := hi.fits.2.1 q hq
    obtain ⟨c, e1, e2⟩ := h.at' q h1.1 h1.2.2
    exact ⟨List.mem_map.2 ⟨q, h1.1, rfl⟩, by unfold dom; rw [e2]; simp, h.big q h1.1 h1.2.2⟩
  · simp only [rnL, List.mem_map, Prod.mk.injEq] at h1 h2
    obtain ⟨p, hp1, e1, rfl⟩ := h1
    obtain ⟨q, hq1, e2, rfl⟩ := h2
    have k1 := hi.fits.2.1 p.1 (mem_keys.2 ⟨p, hp1, rfl⟩)
    have k2 := hi.fits.2.1 q.1 (mem_keys.2 ⟨q, hq1, rfl⟩)
    have e3 := h.inj p.1 k1.1 q.1 k2.1 k1.2.2 k2.2.2 (e1.trans e2.symm)
    have e4 := hi.fits.2.2.1 p.1 p.2 q.2 hp1 (by rw [e3]; exact hq1)
    rw [e4]
  · simp only [rnL, List.mem_map] at hp1
    obtain ⟨p, hp1, rfl⟩ := hp1
    intro x hx
    obtain ⟨y, hy, rfl⟩ := Array.mem_map.1 hx
    exact idsF_rn (fun k hk => h.dom1 hk) (hi.fits.2.2.2 p hp1 y hy)
  · obtain ⟨s1, s2, s3⟩ := h.sat hGF hG hi.closed hsat hinj hlow
    have hrun := hi.run (fun k => r (ρ k)) W hgok s1 s2 s3
    have ha : (args.map (ren ρ)).map (ren r) = args.map (ren fun k => r (ρ k)) := by
      rw [Array.map_map]
      exact Array.map_congr_left fun x _ => ren_comp r ρ x
    rw [ha]
    refine hrun.mono fun e W' ⟨he, ht⟩ => ⟨?_, ht.os, ht.tape, ht.output, ht.size, fun k hk hnw => ht.same k hk fun p hp1 => ?_, fun p hp1 => ?_, by simp, by simp⟩
    · rw [he, ren_comp]
    · exact hnw (ρ p.1, p.2.rn ρ) (by simp only [rnL, List.mem_map]; exact ⟨p, hp1, rfl⟩)
    · simp only [List.append_nil, rnL, List.mem_map] at hp1
      obtain ⟨p, hp1, rfl⟩ := hp1
      have h1 := ht.has p (by simpa using hp1)
      refine ⟨by rw [Blk.rn_obj]; exact h1.1, fun x hx => ?_⟩
      obtain ⟨y, hy, rfl⟩ := Array.mem_map.1 hx
      exact idsF_rn (D := extD (dom (rst hp rs)) []) (fun k hk => by rw [extD_nil] at hk ⊢; exact h.dom1 hk) (h1.2 y hy)
theorem Fun.rnp {f : FuncId} {args : Array Value} {hp hp' : Hp} {rs : List Nat} {pv : Value} (ρ : Nat → Nat) (hGF : GFlat G) (hG : ∀ k, k < 100 → hp k = G k) (h : Rn ρ hp hp' rs) (hi : Fun P G f args hp rs (.pan pv)) :
    Fun P G f (args.map (ren ρ)) hp' (rs.map ρ) (.pan pv) := by
  refine ⟨hi.enter, fun x hx => ?_, fun k b hb => ?_, trivial, fun r W hgok hsat hinj hlow => ?_⟩
  · obtain ⟨y, hy, rfl⟩ := Array.mem_map.1 hx
    exact idsV_rn (fun k hk => h.dom1 hk) (hi.ids y hy)
  · obtain ⟨q, c, h1, rfl, rfl⟩ := h.back hGF hG k b hb
    intro x hx
    obtain ⟨y, hy, rfl⟩ := Array.mem_map.1 hx
    exact idsF_rn (fun k hk => h.dom1 hk) (hi.closed q c h1 y hy)
  · obtain ⟨s1, s2, s3⟩ := h.sat hGF hG hi.closed hsat hinj hlow
    have hrun := hi.run (fun k => r (ρ k)) W hgok s1 s2 s3
    have ha : (args.map (ren ρ)).map (ren r) = args.map (ren fun k => r (ρ k)) := by
      rw [Array.map_map]
      exact Array.map_congr_left fun x _ => ren_comp r ρ x
    rw [ha]
    exact hrun
/-! Where more variables are laid. -/
theorem Ret.up {G' : Hp} {f : FuncId} {args : Array Value} {v : Value} (h : Ret P G f args v) (hg : ∀ W, GOK G' W → GOK G W) : Ret P G' f args v := ⟨h.1, h.2.1, h.2.2.1, fun W hW => h.2.2.2 W (hg W hW)⟩
theorem RetP.up {G' : Hp} {f : FuncId} {args : Array Value} {o : Out} (h : RetP P G f args o) (hg : ∀ W, GOK G' W → GOK G W) : RetP P G' f args o := ⟨h.1, h.2.1, h.2.2.1, fun W hW => h.2.2.2 W (hg W hW)⟩
end
end Go.Gy
namespace Go.Gy
set_option linter.unusedSimpArgs false
set_option linter.unusedVariables false
open Go Go.RowKit Go.Proofs
def lmB : Blk := ⟨#[.int .i64 (-2097152), .int .i64 2097152, .int .i64 1, .int .i64 2097152, .int .i64 1, .int .i64 1048576, .int .i64 1, .int .i64 1024, .int .i64 (-2097152), .int .i64 2097152, .int .i64 0, .int .i64 13194139533312], 87⟩
def G1 : Hp := hpL G0 [(0, lmB)]
theorem G1F : GFlat G1 := fun k b h => by
  rcases hpL_mem h with h | h
  · simp at h
    obtain ⟨rfl, rfl⟩ := h
    exact ⟨by omega, by simp [lmB]⟩
  · exact G0F k b h
@[simp] theorem G1_big (k : Nat) (h : 100 ≤ k) : G1 k = none := by
  cases hb : G1 k with
  | none => rfl
  | some b => have := (G1F k b hb).1; omega
@[simp] theorem G1_limits : G1 0 = some lmB := by simp [G1]
theorem G1_dom {k : Nat} (h : dom G1 k) : k < 100 := by
  refine Classical.byContradiction fun hk => ?_
  exact h (G1_big k (by omega))
theorem G1_closed (D : Nat → Prop) (k : Nat) (b : Blk) (h : G1 k = some b) : b.ids D := fun x hx => flatF_ids ((G1F k b h).2 x hx)
theorem G1_rst (rs : List Nat) : rst G1 rs = G1 := rst_G G1F rs
theorem G1W : ∃ W, GOK G1 W := ⟨{ (default : World) with heap := Array.ofFn (n := 100) fun k => match G1 k.1 with | some b => .cells b.c b.T (0, 0) | none => .cells #[] 0 (0, 0) }, fun k b h => by
  have hk := (G1F k b h).1
  simp [hk, h]⟩
theorem G1up (W : World) (h : GOK G1 W) : GOK G0 W := fun k b hk => h k b (by
  have h0 : ¬ k = 0 := fun e => by subst e; simp [G0, G0L] at hk
  simp [G1, h0, hk])

@[simp] theorem wOf' (n : Int) (h : i64 n) (K : Value → Prop) : callK Tryd.prog G1 54 #[.int .i64 n] K ↔ K (wd n) := callK_iff G1W (by kernel_rfl) ((wof_ret n h).up G1up)
@[simp] theorem wMul' (a b : Int) (K : Value → Prop) : callK Tryd.prog G1 87 #[Value.agg #[.int .u64 (wi (a) 0), .int .u64 (wi (a) 1), .int .u64 (wi (a) 2), .int .u64 (wi (a) 3)], Value.agg #[.int .u64 (wi (b) 0), .int .u64 (wi (b) 1), .int .u64 (wi (b) 2), .int .u64 (wi (b) 3)]] K ↔ K (.tuple #[wd (sz a * sz b), .bool (mulO a b)]) := callK_iff G1W (by kernel_rfl) ((wmul_ret a b).up G1up)
@[simp] theorem wInt' (z : Int) (K : Value → Prop) : callK Tryd.prog G1 56 #[Value.agg #[.int .u64 (wi (z) 0), .int .u64 (wi (z) 1), .int .u64 (wi (z) 2), .int .u64 (wi (z) 3)]] K ↔ K (.tuple #[.int .i64 (if i64 (sz z) then sz z else 0), .bool (decide (i64 (sz z)))]) := callK_iff G1W (by kernel_rfl) ((wint_ret z).up G1up)
@[simp] theorem wCmp' (a b : Int) (K : Value → Prop) : callK Tryd.prog G1 75 #[Value.agg #[.int .u64 (wi (a) 0), .int .u64 (wi (a) 1), .int .u64 (wi (a) 2), .int .u64 (wi (a) 3)], Value.agg #[.int .u64 (wi (b) 0), .int .u64 (wi (b) 1), .int .u64 (wi (b) 2), .int .u64 (wi (b) 3)]] K ↔ K (.int .i64 (cmpI (sz a) (sz b))) := callK_iff G1W (by kernel_rfl) ((wcmp_ret a b).up G1up)
@[simp] theorem rHalf' (a b : Int) (ha : wr a) (hb : wr b) (h0 : 0 ≤ a) (hb0 : 0 < b) (K : Value → Prop) : callK Tryd.prog G1 18 #[Value.agg #[.int .u64 (wi (a) 0), .int .u64 (wi (a) 1), .int .u64 (wi (a) 2), .int .u64 (wi (a) 3)], Value.agg #[.int .u64 (wi (b) 0), .int .u64 (wi (b) 1), .int .u64 (wi (b) 2), .int .u64 (wi (b) 3)]] K ↔ K (.tuple #[wd ((isq (a / b) + 1) / 2), .int .i64 0]) := callK_iff G1W (by kernel_rfl) ((rHalf_p_ret a b ha hb h0 hb0).up G1up)
@[simp] theorem of2' (n : Int) (h : i64 n) (K : Value → Prop) : callK Tryd.prog G1 27 #[.int .i64 n] K ↔ K (wd n) := callK_iff G1W (by kernel_rfl) ((of2_ret n h).up G1up)
@[simp] theorem mul2' (a b : Int) (K : Value → Prop) : callK Tryd.prog G1 26 #[Value.agg #[.int .u64 (wi (a) 0), .int .u64 (wi (a) 1), .int .u64 (wi (a) 2), .int .u64 (wi (a) 3)], Value.agg #[.int .u64 (wi (b) 0), .int .u64 (wi (b) 1), .int .u64 (wi (b) 2), .int .u64 (wi (b) 3)]] K ↔ K (.tuple #[wd (sz a * sz b), .bool (mulO a b)]) := callK_iff G1W (by kernel_rfl) ((mul2_ret a b).up G1up)
@[simp] theorem cmp2' (a b : Int) (K : Value → Prop) : callK Tryd.prog G1 28 #[Value.agg #[.int .u64 (wi (a) 0), .int .u64 (wi (a) 1), .int .u64 (wi (a) 2), .int .u64 (wi (a) 3)], Value.agg #[.int .u64 (wi (b) 0), .int .u64 (wi (b) 1), .int .u64 (wi (b) 2), .int .u64 (wi (b) 3)]] K ↔ K (.int .i64 (cmpI (sz a) (sz b))) := callK_iff G1W (by kernel_rfl) ((cmp2_ret a b).up G1up)

theorem pmust_t (n : Int) : RetP Tryd.prog G1 93 #[.bool true, .int .i64 n] (.ret (.tuple #[])) := by
  refine retp_of G1F Tryd.func93 rfl Tryd.call93 (fun v h => by cases h; simp) (by simp) (by simp [Tryd.ntmps93]) ?_
  intro C hC hC0 hY
  repeat' (first
    | refine GW_seq ?_
    | simp only [List.length_cons, List.length_nil, Nat.reduceAdd, Nat.reduceMul, thenG_normal, thenG_ret, thenG_exit, thenG_goto, thenG_panic, blockG_normal, blockG_ret, blockG_goto, blockG_panic, jumpG_normal, jumpG_ret, jumpG_exit, jumpG_panic]
    | (refine GW_region' [] (by kernel_rfl) ?_; intro Q hQ hP; simp [hC, hY]; (first | refine hQ _ _ _ _ ?_ | refine hP _ _ (fun _ => ?_)); clear hQ hP Q)
    | (refine GW_draw' [] follows (by kernel_rfl) (by kernel_rfl) ?_; intro Q hQ hP; simp [hC, hY]; (first | refine hQ _ _ _ _ (by kernel_rfl) ?_ | refine hP _ _ (by kernel_rfl) (fun _ => ?_)); clear hQ hP Q)
    | refine GW_block ?_
    | refine GW_ret ?_
    | refine GW_skip ?_
    | refine GW_exit ?_
    | refine GW_goto ?_
    | refine GW_label ?_
    | simp only [blockG_exit]
    | (refine GW_cond (by simp; rfl) ?_ ?_ <;> (intro hb; first | (exfalso; exact absurd hb (by decide)) | skip)))
  exact ⟨.inl trivial, by simp [Tryd.results93]⟩
theorem pmust_f (n : Int) : RetP Tryd.prog G1 93 #[.bool false, .int .i64 n] (.pan (erV n)) := by
  refine retp_of G1F Tryd.func93 rfl Tryd.call93 (fun v h => by cases h) (by simp) (by simp [Tryd.ntmps93]) ?_
  intro C hC hC0 hY
  repeat' (first
    | refine GW_seq ?_
    | simp only [List.length_cons, List.length_nil, Nat.reduceAdd, Nat.reduceMul, thenG_normal, thenG_ret, thenG_exit, thenG_goto, thenG_panic, blockG_normal, blockG_ret, blockG_goto, blockG_panic, jumpG_normal, jumpG_ret, jumpG_exit, jumpG_panic]
    | (refine GW_region' [] (by kernel_rfl) ?_; intro Q hQ hP; simp [hC, hY]; (first | refine hQ _ _ _ _ ?_ | refine hP _ _ (fun _ => ?_)); clear hQ hP Q)
    | (refine GW_draw' [] follows (by kernel_rfl) (by kernel_rfl) ?_; intro Q hQ hP; simp [hC, hY]; (first | refine hQ _ _ _ _ (by kernel_rfl) ?_ | refine hP _ _ (by kernel_rfl) (fun _ => ?_)); clear hQ hP Q)
    | refine GW_block ?_
    | refine GW_ret ?_
    | refine GW_skip ?_
    | refine GW_exit ?_
    | refine GW_goto ?_
    | refine GW_label ?_
    | simp only [blockG_exit]
    | (refine GW_cond (by simp; rfl) ?_ ?_ <;> (intro hb; first | (exfalso; exact absurd hb (by decide)) | skip)))
  rfl
def capP : Array Value := #[.pointer (some ⟨100000, 0, none⟩)]
def hpP (n : Int) : Hp := hpL G1 [(100000, eB n)]
theorem hpP_rst (n : Int) : rst (hpP n) [100000] = hpP n := hpL_rst G1F (by simp)
theorem hpP_ids (n : Int) (k : Nat) (b : Blk) (D : Nat → Prop) (h : hpP n k = some b) : b.ids D := by
  rcases hpL_mem h with h | h
  · simp at h
    rcases h with ⟨_, rfl⟩
    simp [eB]
  · exact G1_closed _ _ _ h
@[simp] theorem opX_assertE' {dst : Option Tmp} {x : Operand} {T : TypeId} {ps : String} {af : Array Edge} {g : Option (Nat × Bool)} {V : XV} {yc nk : Nat} {ts : Nat → Value} {hp : Hp} {C : Eff → Prop} (h : ifE (gev ts x) = true) (hx : okX ts hp x) :
    opX Tryd.prog G1 V yc ⟨dst, .typeAssert x 20 25 false, T, ps, af, g⟩ ts hp nk C ↔ C (val (ifN (gev ts x)) []) := by
  obtain ⟨n, hn⟩ := ifE_of h
  refine pureV_iff (K := fun v => C (val v [])) ?_ ?_ fun W => ?_
  · intro y hy
    simp [Op.operands] at hy
    subst hy
    exact ⟨hx, by rw [hn]; rfl⟩
  · rw [hn]; rfl
  · simp only [execOp, hn]
    kernel_rfl
theorem rep6 : Array.replicate 6 undef = #[undef, undef, undef, undef, undef, undef] := rfl
theorem prec (n : Int) : RecF Tryd.prog G1 92 capP (hpP 0) [100000] (erV n) [(100000, eB n)] := by
  refine ⟨⟨_, Tryd.func92⟩, Tryd.call92, ?_, ?_⟩
  · refine back_of (k := 1) Tryd.func92 rfl fun args c₀ cs W hk hu => ?_
    obtain ⟨p0, rfl⟩ : ∃ p0, args = #[p0] := by
      rcases args with ⟨l⟩
      match l, hk with
      | [a], _ => exact ⟨a, rfl⟩
    have hn : Tryd.f92.ntmps = 7 := Tryd.ntmps92
    refine wpSIn_seq (wpSIn_region ?_)
    simp [wpOpsSIn, List.range, List.range.loop, go_sem, recoverD, hu, hn, rep6]
    refine wpSIn_seq (wpSIn_region ?_)
    simp [wpOpsSIn, List.range, List.range.loop, go_sem, neq_nil0]
    refine wpSIn_cond (t := false) (by simp [Act.eval]) ?_
    refine wpSIn_of_wpIn rfl (wpIn_skip ?_)
    exact ⟨.inl rfl, rfl, rfl, rfl, .tuple #[], by simp [results, Tryd.results92, go_sem]⟩
  · refine caught_of (B := 200000) (A := #[.pointer (some ⟨100000, 0, none⟩), erV n, erV n, undef, undef, undef, undef]) G1F (fun k hk => hpL_low (by simp) hk) Tryd.func92 rfl (by simp [Tryd.ntmps92]) ?_ ?_ ?_ ?_ ?_ ?_ (by omega) ?_ ?_
    · rw [hpP_rst]; simp [hpP, dom]
    · intro r c₀ cs W Q hu hQ
      have hrn : ∀ v, flatV v = true → ren r v = v := fun v hv => flatV_ren hv
      simp only [List.map_toArray, List.map_cons, List.map_nil, capP] at hQ ⊢
      generalize ren r (.pointer (some ⟨100000, 0, none⟩)) = p0 at hQ ⊢
      simp only [hrn (erV n) rfl, ren_undef] at hQ
      have hn : Tryd.f92.ntmps = 7 := Tryd.ntmps92
      simp [wpOpsSIn, List.range, List.range.loop, go_sem, recoverD, hu, pand, erV, hn, rep6]
      exact hQ
    · rw [hpP_rst]; exact fun k b h => hpP_ids 0 k b _ h
    · rw [hpP_rst]; simp [hpP, dom]
    · intro k b c h1 h2
      simp at h1 h2
      rw [h1.2, h2.2]
    · simp [eB]
    · rw [hpP_rst]; exact fun x hx => by simp [hpP, show ¬ x = 100000 by omega, show 100 ≤ x by omega]
    · intro C hC hC0 hY
      rw [hpP_rst]
      repeat' (first
        | refine GW_seq ?_
        | simp only [List.length_cons, List.length_nil, Nat.reduceAdd, Nat.reduceMul, thenG_normal, thenG_ret, thenG_exit, thenG_goto, thenG_panic, blockG_normal, blockG_ret, blockG_goto, blockG_panic, jumpG_normal, jumpG_ret, jumpG_exit, jumpG_panic]
        | (refine GW_region' [] (by kernel_rfl) ?_; intro Q hQ hP; simp [hC, hY, hpP, eB]; (first | refine hQ _ _ _ _ ?_ | refine hP _ _ (fun _ => ?_)); clear hQ hP Q)
        | (refine GW_draw' [] follows (by kernel_rfl) (by kernel_rfl) ?_; intro Q hQ hP; simp [hC, hY, hpP, eB]; (first | refine hQ _ _ _ _ (by kernel_rfl) ?_ | refine hP _ _ (by kernel_rfl) (fun _ => ?_)); clear hQ hP Q)
        | refine GW_block ?_
        | refine GW_ret ?_
        | refine GW_skip ?_
        | refine GW_exit ?_
        | refine GW_goto ?_
        | refine GW_label ?_
        | simp only [blockG_exit]
        | (refine GW_cond (by simp; rfl) ?_ ?_ <;> (intro hb; first | (exfalso; exact absurd hb (by decide)) | skip)))
      refine ⟨.inl trivial, by simp [Tryd.results92], fun k hk => ?_⟩
      simp [eB, hpP]
/-- What 'told' comes to, by what the closure comes to. -/
theorem ptold_ret {g : FuncId} {capv : List Value} {hp : Hp} {rs : List Nat} {ws : List (Nat × Blk)} (hG : ∀ k, k < 100 → hp k = G1 k) (hrs : ∀ k ∈ rs, k < 100000) (hc : capv.isEmpty = false) (hpl : capv.all plain0 = true)
    (h : Fun Tryd.prog G1 g capv.toArray hp rs (.ret (.tuple #[]) ws)) :
    Fun Tryd.prog G1 67 #[.func (.func g) #[] capv.toArray] hp rs (.ret (.int .i64 0) ws) := by
  have hids : ∀ x ∈ capv, ids0 (dom (rst hp rs)) x := fun x hx => (ids_plain0 (List.all_eq_true.1 hpl x hx)).1 (h.ids x (by simpa using hx))
  have hbig : ∀ x, 100000 ≤ x → rst hp rs x = none := fun x hx => by
    unfold rst; rw [if_neg]; rintro (h1 | h1)
    · omega
    · have := hrs x h1; omega
  refine fun_rec (out := .ret (.int .i64 0) ws) (B := 100000) (B1 := 100008) (id := 1) (t := 3) (ts1 := upd (fun t => [Value.func (.func g) #[] capv.toArray][t]?.getD undef) 2 (gptr 100000))
    (hp1 := upd (rst hp rs) 100000 (some (eB 0))) capP G1F hG Tryd.func67 rfl (by simp [Tryd.ntmps67]) Tryd.call67 ⟨_, _, _, _, prec 0⟩ ?_ h.closed ?_ (by simp [Tryd.ntmps67]) (by omega) hbig ?_ ?_ ?_ ?_ ?_ ?_
  · simpa using hids
  · exact ⟨flatV_ids (by simp), h.fits.2⟩
  · intro C hC hC0 hY
    repeat' (first
      | refine GW_seq ?_
      | simp only [List.length_cons, List.length_nil, Nat.reduceAdd, Nat.reduceMul, thenG_normal, thenG_ret, thenG_exit, thenG_goto, thenG_panic, blockG_normal, blockG_ret, blockG_goto, blockG_panic, jumpG_normal, jumpG_ret, jumpG_exit, jumpG_panic]
      | (refine GW_region' [] (by kernel_rfl) ?_; intro Q hQ hP; simp [hC, hY]; (first | refine hQ _ _ _ _ ?_ | refine hP _ _ (fun _ => ?_)); clear hQ hP Q)
      | (refine GW_draw' [] follows (by kernel_rfl) (by kernel_rfl) ?_; intro Q hQ hP; simp [hC, hY]; (first | refine hQ _ _ _ _ (by kernel_rfl) ?_ | refine hP _ _ (by kernel_rfl) (fun _ => ?_)); clear hQ hP Q)
      | refine GW_block ?_
      | refine GW_ret ?_
      | refine GW_skip ?_
      | refine GW_exit ?_
      | refine GW_goto ?_
      | refine GW_label ?_
      | simp only [blockG_exit]
      | (refine GW_cond (by simp; rfl) ?_ ?_ <;> (intro hb; first | (exfalso; exact absurd hb (by decide)) | skip)))
    exact ⟨trivial, rfl⟩
  · intro k hk
    have h1 : ¬ k = 100000 := fun e => hk (hbig k (by omega))
    simp [h1]
  · simp [okT, capP]
  · simp [capP]
  · simp [capP]
  · intro C d hC hC0 hY
    refine GW_seq ?_
    refine GW_region' [] (by kernel_rfl) ?_; intro Q hQ hP; simp [hC, hY, hc, hpl]
    have hk1 : ∀ k ∈ keys ws, k < 100000 := fun k hk => hrs k (h.fits.2.1 k hk).1
    have hk2 : (100000 : Nat) ∉ keys ws := fun hm => by have := hk1 _ hm; omega
    have w1 : updL (upd (rst hp rs) 100000 (some (eB 0))) ws 100000 = some (eB 0) := by
      rw [updL_other hk2]; simp
    refine heapK_of (hp' := hp) h (fun k hk => ?_) hG trivial ?_
    · have := hrs k hk
      simp [rst, hk, show ¬ k = 100000 by omega]
    simp only [eB] at w1
    simp [w1, eB]
    refine hQ _ _ _ _ ?_
    repeat' (first
      | refine GW_seq ?_
      | simp only [List.length_cons, List.length_nil, Nat.reduceAdd, Nat.reduceMul, thenG_normal, thenG_ret, thenG_exit, thenG_goto, thenG_panic, blockG_normal, blockG_ret, blockG_goto, blockG_panic, jumpG_normal, jumpG_ret, jumpG_exit, jumpG_panic]
      | (refine GW_region' [] (by kernel_rfl) ?_; intro Q hQ hP; simp [hC, hY, w1, eB]; (first | refine hQ _ _ _ _ ?_ | refine hP _ _ (fun _ => ?_)); clear hQ hP Q)
      | (refine GW_draw' [] follows (by kernel_rfl) (by kernel_rfl) ?_; intro Q hQ hP; simp [hC, hY, w1, eB]; (first | refine hQ _ _ _ _ (by kernel_rfl) ?_ | refine hP _ _ (by kernel_rfl) (fun _ => ?_)); clear hQ hP Q)
      | refine GW_block ?_
      | refine GW_ret ?_
      | refine GW_skip ?_
      | refine GW_exit ?_
      | refine GW_goto ?_
      | refine GW_label ?_
      | simp only [blockG_exit]
      | (refine GW_cond (by simp; rfl) ?_ ?_ <;> (intro hb; first | (exfalso; exact absurd hb (by decide)) | skip)))
    refine ⟨.inr rfl, by simp [Tryd.results67], fun k hk => ?_⟩
    have h1 : ¬ k = 100000 := fun e => hk (hbig k (by omega))
    rw [updL_comm_upd hk2]
    simp [h1]
theorem ptold_pan {g : FuncId} {capv : List Value} {hp : Hp} {rs : List Nat} {n : Int} (hG : ∀ k, k < 100 → hp k = G1 k) (hrs : ∀ k ∈ rs, k < 100000) (hc : capv.isEmpty = false) (hpl : capv.all plain0 = true)
    (h : Fun Tryd.prog G1 g capv.toArray hp rs (.pan (erV n))) :
    Fun Tryd.prog G1 67 #[.func (.func g) #[] capv.toArray] hp rs (.ret (.int .i64 n) []) := by
  have hids : ∀ x ∈ capv, ids0 (dom (rst hp rs)) x := fun x hx => (ids_plain0 (List.all_eq_true.1 hpl x hx)).1 (h.ids x (by simpa using hx))
  have hbig : ∀ x, 100000 ≤ x → rst hp rs x = none := fun x hx => by
    unfold rst; rw [if_neg]; rintro (h1 | h1)
    · omega
    · have := hrs x h1; omega
  refine fun_rec (out := .pan (erV n) [100000] [(100000, eB n)] (.int .i64 n)) (B := 100000) (B1 := 100008) (id := 1) (t := 3) (ts1 := upd (fun t => [Value.func (.func g) #[] capv.toArray][t]?.getD undef) 2 (gptr 100000))
    (hp1 := upd (rst hp rs) 100000 (some (eB 0))) capP G1F hG Tryd.func67 rfl (by simp [Tryd.ntmps67]) Tryd.call67 ⟨_, _, _, _, prec 0⟩ ?_ h.closed ?_ (by simp [Tryd.ntmps67]) (by omega) hbig ?_ ?_ ?_ ?_ ?_ ?_
  · simpa using hids
  · exact ⟨flatV_ids (by simp), by simp [keys], by simp, by simp⟩
  · intro C hC hC0 hY
    repeat' (first
      | refine GW_seq ?_
      | simp only [List.length_cons, List.length_nil, Nat.reduceAdd, Nat.reduceMul, thenG_normal, thenG_ret, thenG_exit, thenG_goto, thenG_panic, blockG_normal, blockG_ret, blockG_goto, blockG_panic, jumpG_normal, jumpG_ret, jumpG_exit, jumpG_panic]
      | (refine GW_region' [] (by kernel_rfl) ?_; intro Q hQ hP; simp [hC, hY]; (first | refine hQ _ _ _ _ ?_ | refine hP _ _ (fun _ => ?_)); clear hQ hP Q)
      | (refine GW_draw' [] follows (by kernel_rfl) (by kernel_rfl) ?_; intro Q hQ hP; simp [hC, hY]; (first | refine hQ _ _ _ _ (by kernel_rfl) ?_ | refine hP _ _ (by kernel_rfl) (fun _ => ?_)); clear hQ hP Q)
      | refine GW_block ?_
      | refine GW_ret ?_
      | refine GW_skip ?_
      | refine GW_exit ?_
      | refine GW_goto ?_
      | refine GW_label ?_
      | simp only [blockG_exit]
      | (refine GW_cond (by simp; rfl) ?_ ?_ <;> (intro hb; first | (exfalso; exact absurd hb (by decide)) | skip)))
    exact ⟨trivial, rfl⟩
  · intro k hk
    have h1 : ¬ k = 100000 := fun e => hk (hbig k (by omega))
    simp [h1]
  · simp [okT, capP]
  · simp [capP]
  · simp [capP]
  · intro C d hC hC0 hY
    refine GW_seq ?_
    refine GW_region' [] (by kernel_rfl) ?_; intro Q hQ hP; simp [hC, hY, hc, hpl]
    refine heapK_of (hp' := hp) h (fun k hk => ?_) hG trivial ?_
    · have := hrs k hk
      simp [rst, hk, show ¬ k = 100000 by omega]
    simp
    refine hP _ _ fun yc => ?_
    simp only [thenG_panic]
    have e : ∀ k, (k < 100 ∨ k ∈ [100000]) → hpP 0 k = upd (rst hp rs) 100000 (some (eB 0)) k := fun k hk => by
      rcases hk with hk | hk
      · simp [hpP, show ¬ k = 100000 by omega, rst, hk, hG k hk]
      · simp at hk; subst hk; simp [hpP]
    have er : rst (upd (rst hp rs) 100000 (some (eB 0))) [100000] = hpP 0 := by rw [← rst_congr e, hpP_rst]
    refine ⟨rfl, by simp [Tryd.results67, eB], fun k hk => rfl, (prec n).under e, fun k hk => ?_, fun k hk => ?_, ?_⟩
    · rw [er] at hk; unfold dom at hk ⊢
      by_cases h1 : k = 100000
      · subst h1; simp
      · simp only [hpP, hpL_cons, hpL_nil, h1, if_false] at hk
        have hk100 := G1_dom hk
        simp [h1, rst, hk100, hG k hk100]; exact hk
    · rw [er]
      simp [keys] at hk
      subst hk
      exact ⟨by simp [hpP, dom], by omega, fun hd => hd (hbig _ (by omega))⟩
    · rw [er]; exact fun k b hk => hpP_ids 0 k b _ hk
end Go.Gy
namespace Go.Gy
set_option linter.unusedSimpArgs false
set_option linter.unusedVariables false
set_option maxRecDepth 100000
open Go Go.RowKit Go.Proofs Go.ChangeShapes Go.WideShapes Go.ChangeAt
theorem cells_i64 : Tryd.prog.cellsOf 3 = 1 := by kernel_rfl
theorem cells_vec : Tryd.prog.cellsOf 41 = 3 := by kernel_rfl
theorem cells_lim : Tryd.prog.cellsOf 86 = 2 := by kernel_rfl
theorem cells_lims : Tryd.prog.cellsOf 87 = 12 := by kernel_rfl
section
variable {H : Type} {enc : TypeId × Value → H} {w : World}
theorem open_vec {base b0 : Nat} {spare : Nat → Bool} {held : Bool} {r : Reach} {v : Value} {d : DataW H} {p : List MemPlace} (hv : Value.okWide Tryd.prog w r b0 41 v) (h : DataW.Trod enc Tryd.prog w base spare held 41 v d p) :
    ∃ x y z, (Lit.int .i64 x).wf = true ∧ (Lit.int .i64 y).wf = true ∧ (Lit.int .i64 z).wf = true ∧ v = .agg #[.int .i64 x, .int .i64 y, .int .i64 z] ∧ d = .agg [.lit (.int .i64 x), .lit (.int .i64 y), .lit (.int .i64 z)] ∧ p = [] := by
  obtain ⟨zs, hl, rfl, rfl, rfl, hw⟩ := open_ia Tryd.underlying41 Tryd.underlying3 cells_i64 cells_vec hv h
  match zs, hl with
  | [x, y, z], _ => exact ⟨x, y, z, hw _ (by simp), hw _ (by simp), hw _ (by simp), by simp, by simp, rfl⟩
theorem shut_vec {base : Nat} {spare : Nat → Bool} {held : Bool} (x y z : Int) (hx : (Lit.int .i64 x).wf = true) (hy : (Lit.int .i64 y).wf = true) (hz : (Lit.int .i64 z).wf = true) : DataW.Trod enc Tryd.prog w base spare held 41 (.agg #[.int .i64 x, .int .i64 y, .int .i64 z]) (.agg [.lit (.int .i64 x), .lit (.int .i64 y), .lit (.int .i64 z)]) [] :=
  shut_ia (zs := [x, y, z]) Tryd.underlying41 Tryd.underlying3 cells_i64 cells_vec rfl (by simp [hx, hy, hz])
theorem pair_of {base fuel : Nat} {spare : Nat → Bool} {held : Bool} {cs : List Value} {a b : Int} {p : List MemPlace} (h : DataW.trod enc Tryd.prog w base spare held fuel 86 cs = some (.agg [.lit (.int .i64 a), .lit (.int .i64 b)], p)) : cs = [.int .i64 a, .int .i64 b] := by
  cases fuel with
  | zero => simp [DataW.trod] at h
  | succ fuel =>
    simp only [DataW.trod, Tryd.underlying86, cells_lim] at h
    split at h
    · rename_i hl
      obtain ⟨xs, hm, hx⟩ := Option.map_eq_some_iff.1 h
      have hx1 := congrArg Prod.fst hx
      simp only [DataW.agg.injEq] at hx1
      match cs, hl with
      | [c0, c1], _ =>
        have h0 := Lib.mapM_at hm 0 _ rfl
        have h1 := Lib.mapM_at hm 1 _ rfl
        obtain ⟨y0, hy0, hf0⟩ := h0
        obtain ⟨y1, hy1, hf1⟩ := h1
        obtain ⟨z0, hc0, rfl, _⟩ := DataW.trod_int Tryd.underlying3 hf0
        obtain ⟨z1, hc1, rfl, _⟩ := DataW.trod_int Tryd.underlying3 hf1
        have e0 : (xs.map (·.1))[0]? = some (DataW.lit (.int .i64 z0) : DataW H) := by simp [hy0]
        have e1 : (xs.map (·.1))[1]? = some (DataW.lit (.int .i64 z1) : DataW H) := by simp [hy1]
        rw [hx1] at e0 e1
        simp at e0 e1
        subst e0 e1
        have q0 : [c0] = [Value.int .i64 a] := hc0
        have q1 : [c1] = [Value.int .i64 b] := hc1
        simp at q0 q1
        rw [q0, q1]
    · cases h
theorem lims_of {base fuel : Nat} {spare : Nat → Bool} {held : Bool} {cs : List Value} {p : List MemPlace} (h : DataW.trod enc Tryd.prog w base spare held fuel 87 cs = some (Proofs.YtggidgaeggekhaaDoor.Rows.laid_gyre_pull_limits, p)) : cs = lmB.c.toList := by
  cases fuel with
  | zero => simp [DataW.trod] at h
  | succ fuel =>
    simp only [DataW.trod, Tryd.underlying87, cells_lims, cells_lim] at h
    split at h
    · rename_i hl
      obtain ⟨xs, hm, hx⟩ := Option.map_eq_some_iff.1 h
      have hx1 := congrArg Prod.fst hx
      simp only [Proofs.YtggidgaeggekhaaDoor.Rows.laid_gyre_pull_limits, DataW.agg.injEq] at hx1
      have key : ∀ (i : Nat) (a b : Int), i < 6 → ([DataW.agg [.lit (.int .i64 (-2097152)), .lit (.int .i64 2097152)], .agg [.lit (.int .i64 1), .lit (.int .i64 2097152)], .agg [.lit (.int .i64 1), .lit (.int .i64 1048576)], .agg [.lit (.int .i64 1), .lit (.int .i64 1024)], .agg [.lit (.int .i64 (-2097152)), .lit (.int .i64 2097152)], .agg [.lit (.int .i64 0), .lit (.int .i64 13194139533312)]] : List (DataW H))[i]? = some (.agg [.lit (.int .i64 a), .lit (.int .i64 b)]) →
          (cs.drop (i * 2)).take 2 = [.int .i64 a, .int .i64 b] := fun i a b hi hab => by
        obtain ⟨y, hy, hf⟩ := Lib.mapM_at hm i i (by simp [hi])
        have e : (xs.map (·.1))[i]? = some y.1 := by simp [hy]
        rw [hx1, hab] at e
        simp only [Option.some.injEq] at e
        obtain ⟨y1, y2⟩ := y
        simp only at e
        subst e
        exact pair_of hf
      have k0 := key 0 _ _ (by omega) rfl
      have k1 := key 1 _ _ (by omega) rfl
      have k2 := key 2 _ _ (by omega) rfl
      have k3 := key 3 _ _ (by omega) rfl
      have k4 := key 4 _ _ (by omega) rfl
      have k5 := key 5 _ _ (by omega) rfl
      match cs, hl with
      | [c0, c1, c2, c3, c4, c5, c6, c7, c8, c9, c10, c11], _ =>
        simp at k0 k1 k2 k3 k4 k5
        simp [lmB, k0, k1, k2, k3, k4, k5]
    · cases h
end
theorem gLims : Tryd.prog.globalNamed "gyre/pull.limits" = some 0 := by kernel_rfl
theorem gLimsType : (Tryd.prog.globals[0]?).map (·.type) = some 87 := by kernel_rfl
theorem gLimsRow : ((begin Tryd.prog (fun _ _ => 0) default).world.heap[0]?).bind Obj.row? = some (#[.int .i64 0, .int .i64 0, .int .i64 0, .int .i64 0, .int .i64 0, .int .i64 0, .int .i64 0, .int .i64 0, .int .i64 0, .int .i64 0, .int .i64 0, .int .i64 0], 87) := by kernel_rfl
theorem lims_laid {W : World} {rest : List (String × DataW Unit)} (h : laidMet Tryd.prog (("gyre/pull.limits", Proofs.YtggidgaeggekhaaDoor.Rows.laid_gyre_pull_limits) :: rest) W) : W.var? Tryd.prog "gyre/pull.limits" = some lmB.c := by
  obtain ⟨ps, ⟨g', t', cs, fuel, p, q, hg', ht', hvar, hd, _, _⟩, _⟩ := h
  obtain rfl := Option.some.inj (gLims.symm.trans hg')
  obtain rfl := Option.some.inj (gLimsType.symm.trans ht')
  rw [hvar]
  congr 1
  apply Array.ext'
  exact lims_of hd
theorem gok_two {W : World} (hS : W.ShapedOpen Tryd.prog) (h : laidMet Tryd.prog [("gyre/quot.least", Proofs.YtggidgaeggekhaaDoor.Rows.laid_gyre_quot_least), ("gyre/pull.limits", Proofs.YtggidgaeggekhaaDoor.Rows.laid_gyre_pull_limits)] W) : GOK G1 W := fun k b hk => by
  have h0 := gok_least hS (least_of h)
  rcases hpL_mem hk with hm | hm
  · simp at hm
    obtain ⟨rfl, rfl⟩ := hm
    exact heap_of_var gLims (of_decide_eq_true (by kernel_rfl)) gLimsRow hS (lims_laid (laidMet.tail h))
  · exact h0 k b hm
end Go.Gy
namespace Go.Gy
set_option linter.unusedSimpArgs false
set_option linter.unusedVariables false
open Go Go.RowKit Go.Proofs
/-- A pull's error. -/
def chkE (n d g m x r : Int) : Int :=
  if -2097152 ≤ n ∧ n ≤ 2097152 ∧ 1 ≤ d ∧ d ≤ 2097152 ∧ 1 ≤ g ∧ g ≤ 1048576 ∧ 1 ≤ m ∧ m ≤ 1024 ∧ -2097152 ≤ x ∧ x ≤ 2097152 ∧ 0 ≤ r ∧ r ≤ 13194139533312 then (if r = 0 then 30 else if x * x ≤ r then 0 else 2) else 2
def ckHp (n d g m x r : Int) : Hp := hpL G1 [(100, ⟨#[.int .i64 n, .int .i64 d, .int .i64 g, .int .i64 m, .int .i64 x, .int .i64 r], 3⟩)]
theorem ckHp_rst (n d g m x r : Int) : rst (ckHp n d g m x r) [100] = ckHp n d g m x r := hpL_rst G1F (by simp)
theorem ckHp_closed (n d g m x r : Int) (D : Nat → Prop) (k : Nat) (c : Blk) (h : ckHp n d g m x r k = some c) : c.ids D := by
  rcases hpL_mem h with h | h
  · simp at h
    rcases h with ⟨_, rfl⟩
    simp
  · exact G1_closed _ _ _ h
theorem ckHp_free (n d g m x r : Int) (k : Nat) (hk : 200 ≤ k) : ckHp n d g m x r k = none := by
  simp [ckHp, show ¬ k = 100 by omega, show 100 ≤ k by omega]
set_option maxHeartbeats 2000000 in
theorem check_ok (n d g m x r : Int) (h : chkE n d g m x r = 0) : Fun Tryd.prog G1 74 #[.slice (some ⟨100, 0, none⟩) 6 6] (ckHp n d g m x r) [100] (.ret (.tuple #[]) []) := by
  refine fun_of (B := 200) G1F (fun k hk => hpL_low (by simp) hk) Tryd.func74 rfl Tryd.call74 ?_ ?_ ⟨flatV_ids (by simp), by simp [keys], by simp, by simp⟩ (by simp [Tryd.ntmps74]) (by omega) ?_ ?_
  · rw [ckHp_rst]; simp [ckHp, dom]
  · rw [ckHp_rst]; exact ckHp_closed n d g m x r _
  · rw [ckHp_rst]; exact ckHp_free n d g m x r
  · intro C hC hC0 hY
    rw [ckHp_rst] at hC0 ⊢
    unfold chkE at h
    split at h
    rotate_left
    · cases h
    rename_i hc
    obtain ⟨f0, f1, f2, f3, f4, f5, f6, f7, f8, f9, f10, f11⟩ := hc
    split at h
    · cases h
    rename_i hr
    split at h
    rotate_left
    · cases h
    rename_i hx
    have hr0 : 0 < r := by omega
    have hxx : x * x ≤ 2097152 * 2097152 := by
      by_cases h0 : 0 ≤ x
      · exact Int.mul_le_mul (by omega) (by omega) h0 (by omega)
      · rw [← Int.neg_mul_neg]; exact Int.mul_le_mul (by omega) (by omega) (by omega) (by omega)
    have hx0 : 0 ≤ x * x := by
      by_cases h0 : 0 ≤ x
      · exact Int.mul_nonneg h0 h0
      · rw [← Int.neg_mul_neg]; exact Int.mul_nonneg (by omega) (by omega)
    have hb2 : Int.bmod (x * x) 18446744073709551616 = x * x := bm (by omega) (by omega)
    repeat' (first
      | refine GW_seq ?_
      | refine GWL_start ?_
      | refine GWL_step ?_
      | simp only [List.length_cons, List.length_nil, Nat.reduceAdd, Nat.reduceMul, thenG_normal, thenG_ret, thenG_exit, thenG_goto, thenG_panic, blockG_normal, blockG_ret, blockG_goto, blockG_panic, jumpG_normal, jumpG_ret, jumpG_exit, jumpG_panic]
      | (refine GW_region' [1000093] (by kernel_rfl) ?_; intro Q hQ hP; simp [hC, hY, ckHp, lmB, f0, f1, f2, f3, f4, f5, f6, f7, f8, f9, f10, f11, hr0, hx, hb2]; (repeat (first | ((refine callP_of (pmust_t _) ?_); try simp [hC, hY, ckHp, lmB, f0, f1, f2, f3, f4, f5, f6, f7, f8, f9, f10, f11, hr0, hx, hb2]) | ((refine callP_of (pmust_f _) ?_); try simp [hC, hY, ckHp, lmB, f0, f1, f2, f3, f4, f5, f6, f7, f8, f9, f10, f11, hr0, hx, hb2]))); (first | refine hQ _ _ _ _ ?_ | refine hP _ _ (fun _ => ?_)); clear hQ hP Q)
      | (refine GW_draw' [1000093] follows (by kernel_rfl) (by kernel_rfl) ?_; intro Q hQ hP; simp [hC, hY, ckHp, lmB, f0, f1, f2, f3, f4, f5, f6, f7, f8, f9, f10, f11, hr0, hx, hb2]; (repeat (first | ((refine callP_of (pmust_t _) ?_); try simp [hC, hY, ckHp, lmB, f0, f1, f2, f3, f4, f5, f6, f7, f8, f9, f10, f11, hr0, hx, hb2]) | ((refine callP_of (pmust_f _) ?_); try simp [hC, hY, ckHp, lmB, f0, f1, f2, f3, f4, f5, f6, f7, f8, f9, f10, f11, hr0, hx, hb2]))); (first | refine hQ _ _ _ _ (by kernel_rfl) ?_ | refine hP _ _ (by kernel_rfl) (fun _ => ?_)); clear hQ hP Q)
      | refine GW_block ?_
      | refine GW_ret ?_
      | refine GW_skip ?_
      | refine GW_exit ?_
      | refine GW_goto ?_
      | refine GW_label ?_
      | simp only [blockG_exit]
      | (refine GW_cond (by simp; rfl) ?_ ?_ <;> (intro hb; first | (exfalso; exact absurd hb (by decide)) | skip)))
    refine ⟨.inl rfl, by simp [Tryd.results74], fun k hk => ?_⟩
    have hk3 : k < 200 := Classical.byContradiction fun h => hk (ckHp_free n d g m x r k (by omega))
    first | rfl | (simp (disch := omega) only [upd_far]; rfl)
set_option maxHeartbeats 4000000 in
theorem check_bad (n d g m x r : Int) (h : chkE n d g m x r ≠ 0) : Fun Tryd.prog G1 74 #[.slice (some ⟨100, 0, none⟩) 6 6] (ckHp n d g m x r) [100] (.pan (erV (chkE n d g m x r))) := by
  refine fun_of (B := 200) G1F (fun k hk => hpL_low (by simp) hk) Tryd.func74 rfl Tryd.call74 ?_ ?_ trivial (by simp [Tryd.ntmps74]) (by omega) ?_ ?_
  · rw [ckHp_rst]; simp [ckHp, dom]
  · rw [ckHp_rst]; exact ckHp_closed n d g m x r _
  · rw [ckHp_rst]; exact ckHp_free n d g m x r
  · intro C hC hC0 hY
    rw [ckHp_rst] at hC0 ⊢
    by_cases f0 : -2097152 ≤ n
    rotate_left
    · have hE : chkE n d g m x r = 2 := if_neg (by omega)
      rw [hE]
      repeat' (first
        | refine GW_seq ?_
        | refine GWL_start ?_
        | refine GWL_step ?_
        | simp only [List.length_cons, List.length_nil, Nat.reduceAdd, Nat.reduceMul, thenG_normal, thenG_ret, thenG_exit, thenG_goto, thenG_panic, blockG_normal, blockG_ret, blockG_goto, blockG_panic, jumpG_normal, jumpG_ret, jumpG_exit, jumpG_panic]
        | (refine GW_region' [1000093] (by kernel_rfl) ?_; intro Q hQ hP; simp [hC, hY, ckHp, lmB, f0]; (repeat (first | ((refine callP_of (pmust_t _) ?_); try simp [hC, hY, ckHp, lmB, f0]) | ((refine callP_of (pmust_f _) ?_); try simp [hC, hY, ckHp, lmB, f0]))); (first | refine hQ _ _ _ _ ?_ | refine hP _ _ (fun _ => ?_)); clear hQ hP Q)
        | (refine GW_draw' [1000093] follows (by kernel_rfl) (by kernel_rfl) ?_; intro Q hQ hP; simp [hC, hY, ckHp, lmB, f0]; (repeat (first | ((refine callP_of (pmust_t _) ?_); try simp [hC, hY, ckHp, lmB, f0]) | ((refine callP_of (pmust_f _) ?_); try simp [hC, hY, ckHp, lmB, f0]))); (first | refine hQ _ _ _ _ (by kernel_rfl) ?_ | refine hP _ _ (by kernel_rfl) (fun _ => ?_)); clear hQ hP Q)
        | refine GW_block ?_
        | refine GW_ret ?_
        | refine GW_skip ?_
        | refine GW_exit ?_
        | refine GW_goto ?_
        | refine GW_label ?_
        | simp only [blockG_exit]
        | (refine GW_cond (by simp; rfl) ?_ ?_ <;> (intro hb; first | (exfalso; exact absurd hb (by decide)) | skip)))
      refine ⟨rfl, fun k hk => ?_⟩
      have hk3 : k < 200 := Classical.byContradiction fun h => hk (ckHp_free n d g m x r k (by omega))
      first | rfl | (simp (disch := omega) only [upd_far]; rfl)
    by_cases f1 : n ≤ 2097152
    rotate_left
    · have hE : chkE n d g m x r = 2 := if_neg (by omega)
      rw [hE]
      repeat' (first
        | refine GW_seq ?_
        | refine GWL_start ?_
        | refine GWL_step ?_
        | simp only [List.length_cons, List.length_nil, Nat.reduceAdd, Nat.reduceMul, thenG_normal, thenG_ret, thenG_exit, thenG_goto, thenG_panic, blockG_normal, blockG_ret, blockG_goto, blockG_panic, jumpG_normal, jumpG_ret, jumpG_exit, jumpG_panic]
        | (refine GW_region' [1000093] (by kernel_rfl) ?_; intro Q hQ hP; simp [hC, hY, ckHp, lmB, f0, f1]; (repeat (first | ((refine callP_of (pmust_t _) ?_); try simp [hC, hY, ckHp, lmB, f0, f1]) | ((refine callP_of (pmust_f _) ?_); try simp [hC, hY, ckHp, lmB, f0, f1]))); (first | refine hQ _ _ _ _ ?_ | refine hP _ _ (fun _ => ?_)); clear hQ hP Q)
        | (refine GW_draw' [1000093] follows (by kernel_rfl) (by kernel_rfl) ?_; intro Q hQ hP; simp [hC, hY, ckHp, lmB, f0, f1]; (repeat (first | ((refine callP_of (pmust_t _) ?_); try simp [hC, hY, ckHp, lmB, f0, f1]) | ((refine callP_of (pmust_f _) ?_); try simp [hC, hY, ckHp, lmB, f0, f1]))); (first | refine hQ _ _ _ _ (by kernel_rfl) ?_ | refine hP _ _ (by kernel_rfl) (fun _ => ?_)); clear hQ hP Q)
        | refine GW_block ?_
        | refine GW_ret ?_
        | refine GW_skip ?_
        | refine GW_exit ?_
        | refine GW_goto ?_
        | refine GW_label ?_
        | simp only [blockG_exit]
        | (refine GW_cond (by simp; rfl) ?_ ?_ <;> (intro hb; first | (exfalso; exact absurd hb (by decide)) | skip)))
      refine ⟨rfl, fun k hk => ?_⟩
      have hk3 : k < 200 := Classical.byContradiction fun h => hk (ckHp_free n d g m x r k (by omega))
      first | rfl | (simp (disch := omega) only [upd_far]; rfl)
    by_cases f2 : 1 ≤ d
    rotate_left
    · have hE : chkE n d g m x r = 2 := if_neg (by omega)
      rw [hE]
      repeat' (first
        | refine GW_seq ?_
        | refine GWL_start ?_
        | refine GWL_step ?_
        | simp only [List.length_cons, List.length_nil, Nat.reduceAdd, Nat.reduceMul, thenG_normal, thenG_ret, thenG_exit, thenG_goto, thenG_panic, blockG_normal, blockG_ret, blockG_goto, blockG_panic, jumpG_normal, jumpG_ret, jumpG_exit, jumpG_panic]
        | (refine GW_region' [1000093] (by kernel_rfl) ?_; intro Q hQ hP; simp [hC, hY, ckHp, lmB, f0, f1, f2]; (repeat (first | ((refine callP_of (pmust_t _) ?_); try simp [hC, hY, ckHp, lmB, f0, f1, f2]) | ((refine callP_of (pmust_f _) ?_); try simp [hC, hY, ckHp, lmB, f0, f1, f2]))); (first | refine hQ _ _ _ _ ?_ | refine hP _ _ (fun _ => ?_)); clear hQ hP Q)
        | (refine GW_draw' [1000093] follows (by kernel_rfl) (by kernel_rfl) ?_; intro Q hQ hP; simp [hC, hY, ckHp, lmB, f0, f1, f2]; (repeat (first | ((refine callP_of (pmust_t _) ?_); try simp [hC, hY, ckHp, lmB, f0, f1, f2]) | ((refine callP_of (pmust_f _) ?_); try simp [hC, hY, ckHp, lmB, f0, f1, f2]))); (first | refine hQ _ _ _ _ (by kernel_rfl) ?_ | refine hP _ _ (by kernel_rfl) (fun _ => ?_)); clear hQ hP Q)
        | refine GW_block ?_
        | refine GW_ret ?_
        | refine GW_skip ?_
        | refine GW_exit ?_
        | refine GW_goto ?_
        | refine GW_label ?_
        | simp only [blockG_exit]
        | (refine GW_cond (by simp; rfl) ?_ ?_ <;> (intro hb; first | (exfalso; exact absurd hb (by decide)) | skip)))
      refine ⟨rfl, fun k hk => ?_⟩
      have hk3 : k < 200 := Classical.byContradiction fun h => hk (ckHp_free n d g m x r k (by omega))
      first | rfl | (simp (disch := omega) only [upd_far]; rfl)
    by_cases f3 : d ≤ 2097152
    rotate_left
    · have hE : chkE n d g m x r = 2 := if_neg (by omega)
      rw [hE]
      repeat' (first
        | refine GW_seq ?_
        | refine GWL_start ?_
        | refine GWL_step ?_
        | simp only [List.length_cons, List.length_nil, Nat.reduceAdd, Nat.reduceMul, thenG_normal, thenG_ret, thenG_exit, thenG_goto, thenG_panic, blockG_normal, blockG_ret, blockG_goto, blockG_panic, jumpG_normal, jumpG_ret, jumpG_exit, jumpG_panic]
        | (refine GW_region' [1000093] (by kernel_rfl) ?_; intro Q hQ hP; simp [hC, hY, ckHp, lmB, f0, f1, f2, f3]; (repeat (first | ((refine callP_of (pmust_t _) ?_); try simp [hC, hY, ckHp, lmB, f0, f1, f2, f3]) | ((refine callP_of (pmust_f _) ?_); try simp [hC, hY, ckHp, lmB, f0, f1, f2, f3]))); (first | refine hQ _ _ _ _ ?_ | refine hP _ _ (fun _ => ?_)); clear hQ hP Q)
        | (refine GW_draw' [1000093] follows (by kernel_rfl) (by kernel_rfl) ?_; intro Q hQ hP; simp [hC, hY, ckHp, lmB, f0, f1, f2, f3]; (repeat (first | ((refine callP_of (pmust_t _) ?_); try simp [hC, hY, ckHp, lmB, f0, f1, f2, f3]) | ((refine callP_of (pmust_f _) ?_); try simp [hC, hY, ckHp, lmB, f0, f1, f2, f3]))); (first | refine hQ _ _ _ _ (by kernel_rfl) ?_ | refine hP _ _ (by kernel_rfl) (fun _ => ?_)); clear hQ hP Q)
        | refine GW_block ?_
        | refine GW_ret ?_
        | refine GW_skip ?_
        | refine GW_exit ?_
        | refine GW_goto ?_
        | refine GW_label ?_
        | simp only [blockG_exit]
        | (refine GW_cond (by simp; rfl) ?_ ?_ <;> (intro hb; first | (exfalso; exact absurd hb (by decide)) | skip)))
      refine ⟨rfl, fun k hk => ?_⟩
      have hk3 : k < 200 := Classical.byContradiction fun h => hk (ckHp_free n d g m x r k (by omega))
      first | rfl | (simp (disch := omega) only [upd_far]; rfl)
    by_cases f4 : 1 ≤ g
    rotate_left
    · have hE : chkE n d g m x r = 2 := if_neg (by omega)
      rw [hE]
      repeat' (first
        | refine GW_seq ?_
        | refine GWL_start ?_
        | refine GWL_step ?_
        | simp only [List.length_cons, List.length_nil, Nat.reduceAdd, Nat.reduceMul, thenG_normal, thenG_ret, thenG_exit, thenG_goto, thenG_panic, blockG_normal, blockG_ret, blockG_goto, blockG_panic, jumpG_normal, jumpG_ret, jumpG_exit, jumpG_panic]
        | (refine GW_region' [1000093] (by kernel_rfl) ?_; intro Q hQ hP; simp [hC, hY, ckHp, lmB, f0, f1, f2, f3, f4]; (repeat (first | ((refine callP_of (pmust_t _) ?_); try simp [hC, hY, ckHp, lmB, f0, f1, f2, f3, f4]) | ((refine callP_of (pmust_f _) ?_); try simp [hC, hY, ckHp, lmB, f0, f1, f2, f3, f4]))); (first | refine hQ _ _ _ _ ?_ | refine hP _ _ (fun _ => ?_)); clear hQ hP Q)
        | (refine GW_draw' [1000093] follows (by kernel_rfl) (by kernel_rfl) ?_; intro Q hQ hP; simp [hC, hY, ckHp, lmB, f0, f1, f2, f3, f4]; (repeat (first | ((refine callP_of (pmust_t _) ?_); try simp [hC, hY, ckHp, lmB, f0, f1, f2, f3, f4]) | ((refine callP_of (pmust_f _) ?_); try simp [hC, hY, ckHp, lmB, f0, f1, f2, f3, f4]))); (first | refine hQ _ _ _ _ (by kernel_rfl) ?_ | refine hP _ _ (by kernel_rfl) (fun _ => ?_)); clear hQ hP Q)
        | refine GW_block ?_
        | refine GW_ret ?_
        | refine GW_skip ?_
        | refine GW_exit ?_
        | refine GW_goto ?_
        | refine GW_label ?_
        | simp only [blockG_exit]
        | (refine GW_cond (by simp; rfl) ?_ ?_ <;> (intro hb; first | (exfalso; exact absurd hb (by decide)) | skip)))
      refine ⟨rfl, fun k hk => ?_⟩
      have hk3 : k < 200 := Classical.byContradiction fun h => hk (ckHp_free n d g m x r k (by omega))
      first | rfl | (simp (disch := omega) only [upd_far]; rfl)
    by_cases f5 : g ≤ 1048576
    rotate_left
    · have hE : chkE n d g m x r = 2 := if_neg (by omega)
      rw [hE]
      repeat' (first
        | refine GW_seq ?_
        | refine GWL_start ?_
        | refine GWL_step ?_
        | simp only [List.length_cons, List.length_nil, Nat.reduceAdd, Nat.reduceMul, thenG_normal, thenG_ret, thenG_exit, thenG_goto, thenG_panic, blockG_normal, blockG_ret, blockG_goto, blockG_panic, jumpG_normal, jumpG_ret, jumpG_exit, jumpG_panic]
        | (refine GW_region' [1000093] (by kernel_rfl) ?_; intro Q hQ hP; simp [hC, hY, ckHp, lmB, f0, f1, f2, f3, f4, f5]; (repeat (first | ((refine callP_of (pmust_t _) ?_); try simp [hC, hY, ckHp, lmB, f0, f1, f2, f3, f4, f5]) | ((refine callP_of (pmust_f _) ?_); try simp [hC, hY, ckHp, lmB, f0, f1, f2, f3, f4, f5]))); (first | refine hQ _ _ _ _ ?_ | refine hP _ _ (fun _ => ?_)); clear hQ hP Q)
        | (refine GW_draw' [1000093] follows (by kernel_rfl) (by kernel_rfl) ?_; intro Q hQ hP; simp [hC, hY, ckHp, lmB, f0, f1, f2, f3, f4, f5]; (repeat (first | ((refine callP_of (pmust_t _) ?_); try simp [hC, hY, ckHp, lmB, f0, f1, f2, f3, f4, f5]) | ((refine callP_of (pmust_f _) ?_); try simp [hC, hY, ckHp, lmB, f0, f1, f2, f3, f4, f5]))); (first | refine hQ _ _ _ _ (by kernel_rfl) ?_ | refine hP _ _ (by kernel_rfl) (fun _ => ?_)); clear hQ hP Q)
        | refine GW_block ?_
        | refine GW_ret ?_
        | refine GW_skip ?_
        | refine GW_exit ?_
        | refine GW_goto ?_
        | refine GW_label ?_
        | simp only [blockG_exit]
        | (refine GW_cond (by simp; rfl) ?_ ?_ <;> (intro hb; first | (exfalso; exact absurd hb (by decide)) | skip)))
      refine ⟨rfl, fun k hk => ?_⟩
      have hk3 : k < 200 := Classical.byContradiction fun h => hk (ckHp_free n d g m x r k (by omega))
      first | rfl | (simp (disch := omega) only [upd_far]; rfl)
    by_cases f6 : 1 ≤ m
    rotate_left
    · have hE : chkE n d g m x r = 2 := if_neg (by omega)
      rw [hE]
      repeat' (first
        | refine GW_seq ?_
        | refine GWL_start ?_
        | refine GWL_step ?_
        | simp only [List.length_cons, List.length_nil, Nat.reduceAdd, Nat.reduceMul, thenG_normal, thenG_ret, thenG_exit, thenG_goto, thenG_panic, blockG_normal, blockG_ret, blockG_goto, blockG_panic, jumpG_normal, jumpG_ret, jumpG_exit, jumpG_panic]
        | (refine GW_region' [1000093] (by kernel_rfl) ?_; intro Q hQ hP; simp [hC, hY, ckHp, lmB, f0, f1, f2, f3, f4, f5, f6]; (repeat (first | ((refine callP_of (pmust_t _) ?_); try simp [hC, hY, ckHp, lmB, f0, f1, f2, f3, f4, f5, f6]) | ((refine callP_of (pmust_f _) ?_); try simp [hC, hY, ckHp, lmB, f0, f1, f2, f3, f4, f5, f6]))); (first | refine hQ _ _ _ _ ?_ | refine hP _ _ (fun _ => ?_)); clear hQ hP Q)
        | (refine GW_draw' [1000093] follows (by kernel_rfl) (by kernel_rfl) ?_; intro Q hQ hP; simp [hC, hY, ckHp, lmB, f0, f1, f2, f3, f4, f5, f6]; (repeat (first | ((refine callP_of (pmust_t _) ?_); try simp [hC, hY, ckHp, lmB, f0, f1, f2, f3, f4, f5, f6]) | ((refine callP_of (pmust_f _) ?_); try simp [hC, hY, ckHp, lmB, f0, f1, f2, f3, f4, f5, f6]))); (first | refine hQ _ _ _ _ (by kernel_rfl) ?_ | refine hP _ _ (by kernel_rfl) (fun _ => ?_)); clear hQ hP Q)
        | refine GW_block ?_
        | refine GW_ret ?_
        | refine GW_skip ?_
        | refine GW_exit ?_
        | refine GW_goto ?_
        | refine GW_label ?_
        | simp only [blockG_exit]
        | (refine GW_cond (by simp; rfl) ?_ ?_ <;> (intro hb; first | (exfalso; exact absurd hb (by decide)) | skip)))
      refine ⟨rfl, fun k hk => ?_⟩
      have hk3 : k < 200 := Classical.byContradiction fun h => hk (ckHp_free n d g m x r k (by omega))
      first | rfl | (simp (disch := omega) only [upd_far]; rfl)
    by_cases f7 : m ≤ 1024
    rotate_left
    · have hE : chkE n d g m x r = 2 := if_neg (by omega)
      rw [hE]
      repeat' (first
        | refine GW_seq ?_
        | refine GWL_start ?_
        | refine GWL_step ?_
        | simp only [List.length_cons, List.length_nil, Nat.reduceAdd, Nat.reduceMul, thenG_normal, thenG_ret, thenG_exit, thenG_goto, thenG_panic, blockG_normal, blockG_ret, blockG_goto, blockG_panic, jumpG_normal, jumpG_ret, jumpG_exit, jumpG_panic]
        | (refine GW_region' [1000093] (by kernel_rfl) ?_; intro Q hQ hP; simp [hC, hY, ckHp, lmB, f0, f1, f2, f3, f4, f5, f6, f7]; (repeat (first | ((refine callP_of (pmust_t _) ?_); try simp [hC, hY, ckHp, lmB, f0, f1, f2, f3, f4, f5, f6, f7]) | ((refine callP_of (pmust_f _) ?_); try simp [hC, hY, ckHp, lmB, f0, f1, f2, f3, f4, f5, f6, f7]))); (first | refine hQ _ _ _ _ ?_ | refine hP _ _ (fun _ => ?_)); clear hQ hP Q)
        | (refine GW_draw' [1000093] follows (by kernel_rfl) (by kernel_rfl) ?_; intro Q hQ hP; simp [hC, hY, ckHp, lmB, f0, f1, f2, f3, f4, f5, f6, f7]; (repeat (first | ((refine callP_of (pmust_t _) ?_); try simp [hC, hY, ckHp, lmB, f0, f1, f2, f3, f4, f5, f6, f7]) | ((refine callP_of (pmust_f _) ?_); try simp [hC, hY, ckHp, lmB, f0, f1, f2, f3, f4, f5, f6, f7]))); (first | refine hQ _ _ _ _ (by kernel_rfl) ?_ | refine hP _ _ (by kernel_rfl) (fun _ => ?_)); clear hQ hP Q)
        | refine GW_block ?_
        | refine GW_ret ?_
        | refine GW_skip ?_
        | refine GW_exit ?_
        | refine GW_goto ?_
        | refine GW_label ?_
        | simp only [blockG_exit]
        | (refine GW_cond (by simp; rfl) ?_ ?_ <;> (intro hb; first | (exfalso; exact absurd hb (by decide)) | skip)))
      refine ⟨rfl, fun k hk => ?_⟩
      have hk3 : k < 200 := Classical.byContradiction fun h => hk (ckHp_free n d g m x r k (by omega))
      first | rfl | (simp (disch := omega) only [upd_far]; rfl)
    by_cases f8 : -2097152 ≤ x
    rotate_left
    · have hE : chkE n d g m x r = 2 := if_neg (by omega)
      rw [hE]
      repeat' (first
        | refine GW_seq ?_
        | refine GWL_start ?_
        | refine GWL_step ?_
        | simp only [List.length_cons, List.length_nil, Nat.reduceAdd, Nat.reduceMul, thenG_normal, thenG_ret, thenG_exit, thenG_goto, thenG_panic, blockG_normal, blockG_ret, blockG_goto, blockG_panic, jumpG_normal, jumpG_ret, jumpG_exit, jumpG_panic]
        | (refine GW_region' [1000093] (by kernel_rfl) ?_; intro Q hQ hP; simp [hC, hY, ckHp, lmB, f0, f1, f2, f3, f4, f5, f6, f7, f8]; (repeat (first | ((refine callP_of (pmust_t _) ?_); try simp [hC, hY, ckHp, lmB, f0, f1, f2, f3, f4, f5, f6, f7, f8]) | ((refine callP_of (pmust_f _) ?_); try simp [hC, hY, ckHp, lmB, f0, f1, f2, f3, f4, f5, f6, f7, f8]))); (first | refine hQ _ _ _ _ ?_ | refine hP _ _ (fun _ => ?_)); clear hQ hP Q)
        | (refine GW_draw' [1000093] follows (by kernel_rfl) (by kernel_rfl) ?_; intro Q hQ hP; simp [hC, hY, ckHp, lmB, f0, f1, f2, f3, f4, f5, f6, f7, f8]; (repeat (first | ((refine callP_of (pmust_t _) ?_); try simp [hC, hY, ckHp, lmB, f0, f1, f2, f3, f4, f5, f6, f7, f8]) | ((refine callP_of (pmust_f _) ?_); try simp [hC, hY, ckHp, lmB, f0, f1, f2, f3, f4, f5, f6, f7, f8]))); (first | refine hQ _ _ _ _ (by kernel_rfl) ?_ | refine hP _ _ (by kernel_rfl) (fun _ => ?_)); clear hQ hP Q)
        | refine GW_block ?_
        | refine GW_ret ?_
        | refine GW_skip ?_
        | refine GW_exit ?_
        | refine GW_goto ?_
        | refine GW_label ?_
        | simp only [blockG_exit]
        | (refine GW_cond (by simp; rfl) ?_ ?_ <;> (intro hb; first | (exfalso; exact absurd hb (by decide)) | skip)))
      refine ⟨rfl, fun k hk => ?_⟩
      have hk3 : k < 200 := Classical.byContradiction fun h => hk (ckHp_free n d g m x r k (by omega))
      first | rfl | (simp (disch := omega) only [upd_far]; rfl)
    by_cases f9 : x ≤ 2097152
    rotate_left
    · have hE : chkE n d g m x r = 2 := if_neg (by omega)
      rw [hE]
      repeat' (first
        | refine GW_seq ?_
        | refine GWL_start ?_
        | refine GWL_step ?_
        | simp only [List.length_cons, List.length_nil, Nat.reduceAdd, Nat.reduceMul, thenG_normal, thenG_ret, thenG_exit, thenG_goto, thenG_panic, blockG_normal, blockG_ret, blockG_goto, blockG_panic, jumpG_normal, jumpG_ret, jumpG_exit, jumpG_panic]
        | (refine GW_region' [1000093] (by kernel_rfl) ?_; intro Q hQ hP; simp [hC, hY, ckHp, lmB, f0, f1, f2, f3, f4, f5, f6, f7, f8, f9]; (repeat (first | ((refine callP_of (pmust_t _) ?_); try simp [hC, hY, ckHp, lmB, f0, f1, f2, f3, f4, f5, f6, f7, f8, f9]) | ((refine callP_of (pmust_f _) ?_); try simp [hC, hY, ckHp, lmB, f0, f1, f2, f3, f4, f5, f6, f7, f8, f9]))); (first | refine hQ _ _ _ _ ?_ | refine hP _ _ (fun _ => ?_)); clear hQ hP Q)
        | (refine GW_draw' [1000093] follows (by kernel_rfl) (by kernel_rfl) ?_; intro Q hQ hP; simp [hC, hY, ckHp, lmB, f0, f1, f2, f3, f4, f5, f6, f7, f8, f9]; (repeat (first | ((refine callP_of (pmust_t _) ?_); try simp [hC, hY, ckHp, lmB, f0, f1, f2, f3, f4, f5, f6, f7, f8, f9]) | ((refine callP_of (pmust_f _) ?_); try simp [hC, hY, ckHp, lmB, f0, f1, f2, f3, f4, f5, f6, f7, f8, f9]))); (first | refine hQ _ _ _ _ (by kernel_rfl) ?_ | refine hP _ _ (by kernel_rfl) (fun _ => ?_)); clear hQ hP Q)
        | refine GW_block ?_
        | refine GW_ret ?_
        | refine GW_skip ?_
        | refine GW_exit ?_
        | refine GW_goto ?_
        | refine GW_label ?_
        | simp only [blockG_exit]
        | (refine GW_cond (by simp; rfl) ?_ ?_ <;> (intro hb; first | (exfalso; exact absurd hb (by decide)) | skip)))
      refine ⟨rfl, fun k hk => ?_⟩
      have hk3 : k < 200 := Classical.byContradiction fun h => hk (ckHp_free n d g m x r k (by omega))
      first | rfl | (simp (disch := omega) only [upd_far]; rfl)
    by_cases f10 : 0 ≤ r
    rotate_left
    · have hE : chkE n d g m x r = 2 := if_neg (by omega)
      rw [hE]
      repeat' (first
        | refine GW_seq ?_
        | refine GWL_start ?_
        | refine GWL_step ?_
        | simp only [List.length_cons, List.length_nil, Nat.reduceAdd, Nat.reduceMul, thenG_normal, thenG_ret, thenG_exit, thenG_goto, thenG_panic, blockG_normal, blockG_ret, blockG_goto, blockG_panic, jumpG_normal, jumpG_ret, jumpG_exit, jumpG_panic]
        | (refine GW_region' [1000093] (by kernel_rfl) ?_; intro Q hQ hP; simp [hC, hY, ckHp, lmB, f0, f1, f2, f3, f4, f5, f6, f7, f8, f9, f10]; (repeat (first | ((refine callP_of (pmust_t _) ?_); try simp [hC, hY, ckHp, lmB, f0, f1, f2, f3, f4, f5, f6, f7, f8, f9, f10]) | ((refine callP_of (pmust_f _) ?_); try simp [hC, hY, ckHp, lmB, f0, f1, f2, f3, f4, f5, f6, f7, f8, f9, f10]))); (first | refine hQ _ _ _ _ ?_ | refine hP _ _ (fun _ => ?_)); clear hQ hP Q)
        | (refine GW_draw' [1000093] follows (by kernel_rfl) (by kernel_rfl) ?_; intro Q hQ hP; simp [hC, hY, ckHp, lmB, f0, f1, f2, f3, f4, f5, f6, f7, f8, f9, f10]; (repeat (first | ((refine callP_of (pmust_t _) ?_); try simp [hC, hY, ckHp, lmB, f0, f1, f2, f3, f4, f5, f6, f7, f8, f9, f10]) | ((refine callP_of (pmust_f _) ?_); try simp [hC, hY, ckHp, lmB, f0, f1, f2, f3, f4, f5, f6, f7, f8, f9, f10]))); (first | refine hQ _ _ _ _ (by kernel_rfl) ?_ | refine hP _ _ (by kernel_rfl) (fun _ => ?_)); clear hQ hP Q)
        | refine GW_block ?_
        | refine GW_ret ?_
        | refine GW_skip ?_
        | refine GW_exit ?_
        | refine GW_goto ?_
        | refine GW_label ?_
        | simp only [blockG_exit]
        | (refine GW_cond (by simp; rfl) ?_ ?_ <;> (intro hb; first | (exfalso; exact absurd hb (by decide)) | skip)))
      refine ⟨rfl, fun k hk => ?_⟩
      have hk3 : k < 200 := Classical.byContradiction fun h => hk (ckHp_free n d g m x r k (by omega))
      first | rfl | (simp (disch := omega) only [upd_far]; rfl)
    by_cases f11 : r ≤ 13194139533312
    rotate_left
    · have hE : chkE n d g m x r = 2 := if_neg (by omega)
      rw [hE]
      repeat' (first
        | refine GW_seq ?_
        | refine GWL_start ?_
        | refine GWL_step ?_
        | simp only [List.length_cons, List.length_nil, Nat.reduceAdd, Nat.reduceMul, thenG_normal, thenG_ret, thenG_exit, thenG_goto, thenG_panic, blockG_normal, blockG_ret, blockG_goto, blockG_panic, jumpG_normal, jumpG_ret, jumpG_exit, jumpG_panic]
        | (refine GW_region' [1000093] (by kernel_rfl) ?_; intro Q hQ hP; simp [hC, hY, ckHp, lmB, f0, f1, f2, f3, f4, f5, f6, f7, f8, f9, f10, f11]; (repeat (first | ((refine callP_of (pmust_t _) ?_); try simp [hC, hY, ckHp, lmB, f0, f1, f2, f3, f4, f5, f6, f7, f8, f9, f10, f11]) | ((refine callP_of (pmust_f _) ?_); try simp [hC, hY, ckHp, lmB, f0, f1, f2, f3, f4, f5, f6, f7, f8, f9, f10, f11]))); (first | refine hQ _ _ _ _ ?_ | refine hP _ _ (fun _ => ?_)); clear hQ hP Q)
        | (refine GW_draw' [1000093] follows (by kernel_rfl) (by kernel_rfl) ?_; intro Q hQ hP; simp [hC, hY, ckHp, lmB, f0, f1, f2, f3, f4, f5, f6, f7, f8, f9, f10, f11]; (repeat (first | ((refine callP_of (pmust_t _) ?_); try simp [hC, hY, ckHp, lmB, f0, f1, f2, f3, f4, f5, f6, f7, f8, f9, f10, f11]) | ((refine callP_of (pmust_f _) ?_); try simp [hC, hY, ckHp, lmB, f0, f1, f2, f3, f4, f5, f6, f7, f8, f9, f10, f11]))); (first | refine hQ _ _ _ _ (by kernel_rfl) ?_ | refine hP _ _ (by kernel_rfl) (fun _ => ?_)); clear hQ hP Q)
        | refine GW_block ?_
        | refine GW_ret ?_
        | refine GW_skip ?_
        | refine GW_exit ?_
        | refine GW_goto ?_
        | refine GW_label ?_
        | simp only [blockG_exit]
        | (refine GW_cond (by simp; rfl) ?_ ?_ <;> (intro hb; first | (exfalso; exact absurd hb (by decide)) | skip)))
      refine ⟨rfl, fun k hk => ?_⟩
      have hk3 : k < 200 := Classical.byContradiction fun h => hk (ckHp_free n d g m x r k (by omega))
      first | rfl | (simp (disch := omega) only [upd_far]; rfl)
    have hall : chkE n d g m x r = (if r = 0 then 30 else if x * x ≤ r then 0 else 2) := if_pos ⟨f0, f1, f2, f3, f4, f5, f6, f7, f8, f9, f10, f11⟩
    rw [hall] at h ⊢
    by_cases hr : r = 0
    · have hr0 : ¬ 0 < r := by omega
      rw [if_pos hr]
      repeat' (first
        | refine GW_seq ?_
        | refine GWL_start ?_
        | refine GWL_step ?_
        | simp only [List.length_cons, List.length_nil, Nat.reduceAdd, Nat.reduceMul, thenG_normal, thenG_ret, thenG_exit, thenG_goto, thenG_panic, blockG_normal, blockG_ret, blockG_goto, blockG_panic, jumpG_normal, jumpG_ret, jumpG_exit, jumpG_panic]
        | (refine GW_region' [1000093] (by kernel_rfl) ?_; intro Q hQ hP; simp [hC, hY, ckHp, lmB, f0, f1, f2, f3, f4, f5, f6, f7, f8, f9, f10, f11, hr0]; (repeat (first | ((refine callP_of (pmust_t _) ?_); try simp [hC, hY, ckHp, lmB, f0, f1, f2, f3, f4, f5, f6, f7, f8, f9, f10, f11, hr0]) | ((refine callP_of (pmust_f _) ?_); try simp [hC, hY, ckHp, lmB, f0, f1, f2, f3, f4, f5, f6, f7, f8, f9, f10, f11, hr0]))); (first | refine hQ _ _ _ _ ?_ | refine hP _ _ (fun _ => ?_)); clear hQ hP Q)
        | (refine GW_draw' [1000093] follows (by kernel_rfl) (by kernel_rfl) ?_; intro Q hQ hP; simp [hC, hY, ckHp, lmB, f0, f1, f2, f3, f4, f5, f6, f7, f8, f9, f10, f11, hr0]; (repeat (first | ((refine callP_of (pmust_t _) ?_); try simp [hC, hY, ckHp, lmB, f0, f1, f2, f3, f4, f5, f6, f7, f8, f9, f10, f11, hr0]) | ((refine callP_of (pmust_f _) ?_); try simp [hC, hY, ckHp, lmB, f0, f1, f2, f3, f4, f5, f6, f7, f8, f9, f10, f11, hr0]))); (first | refine hQ _ _ _ _ (by kernel_rfl) ?_ | refine hP _ _ (by kernel_rfl) (fun _ => ?_)); clear hQ hP Q)
        | refine GW_block ?_
        | refine GW_ret ?_
        | refine GW_skip ?_
        | refine GW_exit ?_
        | refine GW_goto ?_
        | refine GW_label ?_
        | simp only [blockG_exit]
        | (refine GW_cond (by simp; rfl) ?_ ?_ <;> (intro hb; first | (exfalso; exact absurd hb (by decide)) | skip)))
      refine ⟨rfl, fun k hk => ?_⟩
      have hk3 : k < 200 := Classical.byContradiction fun h => hk (ckHp_free n d g m x r k (by omega))
      first | rfl | (simp (disch := omega) only [upd_far]; rfl)
    have hr0 : 0 < r := by omega
    rw [if_neg hr] at h ⊢
    by_cases hx : x * x ≤ r
    · rw [if_pos hx] at h; exact absurd rfl h
    · rw [if_neg hx]
      have hxx : x * x ≤ 2097152 * 2097152 := by
        by_cases h0 : 0 ≤ x
        · exact Int.mul_le_mul (by omega) (by omega) h0 (by omega)
        · rw [← Int.neg_mul_neg]; exact Int.mul_le_mul (by omega) (by omega) (by omega) (by omega)
      have hx0 : 0 ≤ x * x := by
        by_cases h0 : 0 ≤ x
        · exact Int.mul_nonneg h0 h0
        · rw [← Int.neg_mul_neg]; exact Int.mul_nonneg (by omega) (by omega)
      have hb2 : Int.bmod (x * x) 18446744073709551616 = x * x := bm (by omega) (by omega)
      repeat' (first
        | refine GW_seq ?_
        | refine GWL_start ?_
        | refine GWL_step ?_
        | simp only [List.length_cons, List.length_nil, Nat.reduceAdd, Nat.reduceMul, thenG_normal, thenG_ret, thenG_exit, thenG_goto, thenG_panic, blockG_normal, blockG_ret, blockG_goto, blockG_panic, jumpG_normal, jumpG_ret, jumpG_exit, jumpG_panic]
        | (refine GW_region' [1000093] (by kernel_rfl) ?_; intro Q hQ hP; simp [hC, hY, ckHp, lmB, f0, f1, f2, f3, f4, f5, f6, f7, f8, f9, f10, f11, hr0, hx, hb2]; (repeat (first | ((refine callP_of (pmust_t _) ?_); try simp [hC, hY, ckHp, lmB, f0, f1, f2, f3, f4, f5, f6, f7, f8, f9, f10, f11, hr0, hx, hb2]) | ((refine callP_of (pmust_f _) ?_); try simp [hC, hY, ckHp, lmB, f0, f1, f2, f3, f4, f5, f6, f7, f8, f9, f10, f11, hr0, hx, hb2]))); (first | refine hQ _ _ _ _ ?_ | refine hP _ _ (fun _ => ?_)); clear hQ hP Q)
        | (refine GW_draw' [1000093] follows (by kernel_rfl) (by kernel_rfl) ?_; intro Q hQ hP; simp [hC, hY, ckHp, lmB, f0, f1, f2, f3, f4, f5, f6, f7, f8, f9, f10, f11, hr0, hx, hb2]; (repeat (first | ((refine callP_of (pmust_t _) ?_); try simp [hC, hY, ckHp, lmB, f0, f1, f2, f3, f4, f5, f6, f7, f8, f9, f10, f11, hr0, hx, hb2]) | ((refine callP_of (pmust_f _) ?_); try simp [hC, hY, ckHp, lmB, f0, f1, f2, f3, f4, f5, f6, f7, f8, f9, f10, f11, hr0, hx, hb2]))); (first | refine hQ _ _ _ _ (by kernel_rfl) ?_ | refine hP _ _ (by kernel_rfl) (fun _ => ?_)); clear hQ hP Q)
        | refine GW_block ?_
        | refine GW_ret ?_
        | refine GW_skip ?_
        | refine GW_exit ?_
        | refine GW_goto ?_
        | refine GW_label ?_
        | simp only [blockG_exit]
        | (refine GW_cond (by simp; rfl) ?_ ?_ <;> (intro hb; first | (exfalso; exact absurd hb (by decide)) | skip)))
      refine ⟨rfl, fun k hk => ?_⟩
      have hk3 : k < 200 := Classical.byContradiction fun h => hk (ckHp_free n d g m x r k (by omega))
      first | rfl | (simp (disch := omega) only [upd_far]; rfl)

theorem psquare_ret (a : Int) : Ret Tryd.prog G1 76 #[wd a] (wd (sz a * sz a)) := by
  refine ret_of G1F Tryd.func76 rfl Tryd.call76 (by simp) (by simp) (by simp [Tryd.ntmps76]) ?_
  intro C hC hC0 hY
  repeat' (first
    | refine GW_seq ?_
    | simp only [List.length_cons, List.length_nil, Nat.reduceAdd, Nat.reduceMul, thenG_normal, thenG_ret, thenG_exit, thenG_goto, thenG_panic, blockG_normal, blockG_ret, blockG_goto, blockG_panic, jumpG_normal, jumpG_ret, jumpG_exit, jumpG_panic]
    | (refine GW_region' [] (by kernel_rfl) ?_; intro Q hQ hP; simp [hC, hY]; (first | refine hQ _ _ _ _ ?_ | refine hP _ _ (fun _ => ?_)); clear hQ hP Q)
    | (refine GW_draw' [] follows (by kernel_rfl) (by kernel_rfl) ?_; intro Q hQ hP; simp [hC, hY]; (first | refine hQ _ _ _ _ (by kernel_rfl) ?_ | refine hP _ _ (by kernel_rfl) (fun _ => ?_)); clear hQ hP Q)
    | refine GW_block ?_
    | refine GW_ret ?_
    | refine GW_skip ?_
    | refine GW_exit ?_
    | refine GW_goto ?_
    | refine GW_label ?_
    | simp only [blockG_exit]
    | (refine GW_cond (by simp; rfl) ?_ ?_ <;> (intro hb; first | (exfalso; exact absurd hb (by decide)) | skip)))
  refine ⟨.inr trivial, ?_⟩
  simp [Tryd.results76]
@[simp] theorem psquare (a : Int) (K : Value → Prop) : callK Tryd.prog G1 76 #[Value.agg #[.int .u64 (wi (a) 0), .int .u64 (wi (a) 1), .int .u64 (wi (a) 2), .int .u64 (wi (a) 3)]] K ↔ K (wd (sz a * sz a)) := callK_iff G1W (by kernel_rfl) (psquare_ret a)
set_option maxHeartbeats 1000000 in
theorem times2_fun (a0 a1 : Int) (hi : i64 a0 ∧ i64 a1) (hw : wr (a0) ∧ wr (a0 * a1)) : Fun Tryd.prog G1 77 #[.slice (some ⟨100, 0, none⟩) 2 2] (hpL G1 [(100, ⟨#[.int .i64 a0, .int .i64 a1], 3⟩)]) [100] (.ret (wd (a0 * a1)) []) := by
  have hrst : rst (hpL G1 [(100, ⟨#[.int .i64 a0, .int .i64 a1], 3⟩)]) [100] = hpL G1 [(100, ⟨#[.int .i64 a0, .int .i64 a1], 3⟩)] := hpL_rst G1F (by simp)
  have hfree : ∀ k, 200 ≤ k → hpL G1 [(100, ⟨#[.int .i64 a0, .int .i64 a1], 3⟩)] k = none := fun k hk => by simp [show ¬ k = 100 by omega, show 100 ≤ k by omega]
  refine fun_of (B := 200) G1F (fun k hk => hpL_low (by simp) hk) Tryd.func77 rfl Tryd.call77 ?_ ?_ ⟨flatV_ids (by simp), by simp [keys], by simp, by simp⟩ (by simp [Tryd.ntmps77]) (by omega) ?_ ?_
  · rw [hrst]; simp [dom]
  · rw [hrst]
    intro k c h
    rcases hpL_mem h with h | h
    · simp at h
      rcases h with ⟨_, rfl⟩
      simp
    · exact G1_closed _ _ _ h
  · rw [hrst]; exact hfree
  · intro C hC hC0 hY
    rw [hrst] at hC0 ⊢
    obtain ⟨i0, i1⟩ := hi
    obtain ⟨w0, w1⟩ := hw
    have s0 := wr_sz w0
    have s1 := wr_sz w1
    have t1 := wr_sz (i64_wr i1)
    have j1 := i64_1
    have e1 : sz 1 = 1 := by decide
    repeat' (first
      | refine GW_seq ?_
      | refine GWL_start ?_
      | refine GWL_step ?_
      | simp only [List.length_cons, List.length_nil, Nat.reduceAdd, Nat.reduceMul, thenG_normal, thenG_ret, thenG_exit, thenG_goto, thenG_panic, blockG_normal, blockG_ret, blockG_goto, blockG_panic, jumpG_normal, jumpG_ret, jumpG_exit, jumpG_panic]
      | (refine GW_region' [] (by kernel_rfl) ?_; intro Q hQ hP; simp [hC, hY, j1, e1, Int.one_mul, i0, i1, s0, s1, t1]; (first | refine hQ _ _ _ _ ?_ | refine hP _ _ (fun _ => ?_)); clear hQ hP Q)
      | (refine GW_draw' [] follows (by kernel_rfl) (by kernel_rfl) ?_; intro Q hQ hP; simp [hC, hY, j1, e1, Int.one_mul, i0, i1, s0, s1, t1]; (first | refine hQ _ _ _ _ (by kernel_rfl) ?_ | refine hP _ _ (by kernel_rfl) (fun _ => ?_)); clear hQ hP Q)
      | refine GW_block ?_
      | refine GW_ret ?_
      | refine GW_skip ?_
      | refine GW_exit ?_
      | refine GW_goto ?_
      | refine GW_label ?_
      | simp only [blockG_exit]
      | (refine GW_cond (by simp; rfl) ?_ ?_ <;> (intro hb; first | (exfalso; exact absurd hb (by decide)) | skip)))
    refine ⟨.inr rfl, by simp [Tryd.results77], fun k hk => ?_⟩
    have hk3 : k < 200 := Classical.byContradiction fun h => hk (hfree k (by omega))
    simp (disch := omega) only [upd_far]
    rfl
set_option maxHeartbeats 1000000 in
theorem times4_fun (a0 a1 a2 a3 : Int) (hi : i64 a0 ∧ i64 a1 ∧ i64 a2 ∧ i64 a3) (hw : wr (a0) ∧ wr (a0 * a1) ∧ wr (a0 * a1 * a2) ∧ wr (a0 * a1 * a2 * a3)) : Fun Tryd.prog G1 77 #[.slice (some ⟨100, 0, none⟩) 4 4] (hpL G1 [(100, ⟨#[.int .i64 a0, .int .i64 a1, .int .i64 a2, .int .i64 a3], 3⟩)]) [100] (.ret (wd (a0 * a1 * a2 * a3)) []) := by
  have hrst : rst (hpL G1 [(100, ⟨#[.int .i64 a0, .int .i64 a1, .int .i64 a2, .int .i64 a3], 3⟩)]) [100] = hpL G1 [(100, ⟨#[.int .i64 a0, .int .i64 a1, .int .i64 a2, .int .i64 a3], 3⟩)] := hpL_rst G1F (by simp)
  have hfree : ∀ k, 200 ≤ k → hpL G1 [(100, ⟨#[.int .i64 a0, .int .i64 a1, .int .i64 a2, .int .i64 a3], 3⟩)] k = none := fun k hk => by simp [show ¬ k = 100 by omega, show 100 ≤ k by omega]
  refine fun_of (B := 200) G1F (fun k hk => hpL_low (by simp) hk) Tryd.func77 rfl Tryd.call77 ?_ ?_ ⟨flatV_ids (by simp), by simp [keys], by simp, by simp⟩ (by simp [Tryd.ntmps77]) (by omega) ?_ ?_
  · rw [hrst]; simp [dom]
  · rw [hrst]
    intro k c h
    rcases hpL_mem h with h | h
    · simp at h
      rcases h with ⟨_, rfl⟩
      simp
    · exact G1_closed _ _ _ h
  · rw [hrst]; exact hfree
  · intro C hC hC0 hY
    rw [hrst] at hC0 ⊢
    obtain ⟨i0, i1, i2, i3⟩ := hi
    obtain ⟨w0, w1, w2, w3⟩ := hw
    have s0 := wr_sz w0
    have s1 := wr_sz w1
    have s2 := wr_sz w2
    have s3 := wr_sz w3
    have t1 := wr_sz (i64_wr i1)
    have t2 := wr_sz (i64_wr i2)
    have t3 := wr_sz (i64_wr i3)
    have j1 := i64_1
    have e1 : sz 1 = 1 := by decide
    repeat' (first
      | refine GW_seq ?_
      | refine GWL_start ?_
      | refine GWL_step ?_
      | simp only [List.length_cons, List.length_nil, Nat.reduceAdd, Nat.reduceMul, thenG_normal, thenG_ret, thenG_exit, thenG_goto, thenG_panic, blockG_normal, blockG_ret, blockG_goto, blockG_panic, jumpG_normal, jumpG_ret, jumpG_exit, jumpG_panic]
      | (refine GW_region' [] (by kernel_rfl) ?_; intro Q hQ hP; simp [hC, hY, j1, e1, Int.one_mul, i0, i1, i2, i3, s0, s1, s2, s3, t1, t2, t3]; (first | refine hQ _ _ _ _ ?_ | refine hP _ _ (fun _ => ?_)); clear hQ hP Q)
      | (refine GW_draw' [] follows (by kernel_rfl) (by kernel_rfl) ?_; intro Q hQ hP; simp [hC, hY, j1, e1, Int.one_mul, i0, i1, i2, i3, s0, s1, s2, s3, t1, t2, t3]; (first | refine hQ _ _ _ _ (by kernel_rfl) ?_ | refine hP _ _ (by kernel_rfl) (fun _ => ?_)); clear hQ hP Q)
      | refine GW_block ?_
      | refine GW_ret ?_
      | refine GW_skip ?_
      | refine GW_exit ?_
      | refine GW_goto ?_
      | refine GW_label ?_
      | simp only [blockG_exit]
      | (refine GW_cond (by simp; rfl) ?_ ?_ <;> (intro hb; first | (exfalso; exact absurd hb (by decide)) | skip)))
    refine ⟨.inr rfl, by simp [Tryd.results77], fun k hk => ?_⟩
    have hk3 : k < 200 := Classical.byContradiction fun h => hk (hfree k (by omega))
    simp (disch := omega) only [upd_far]
    rfl
set_option maxHeartbeats 1000000 in
theorem times5_fun (a0 a1 a2 a3 a4 : Int) (hi : i64 a0 ∧ i64 a1 ∧ i64 a2 ∧ i64 a3 ∧ i64 a4) (hw : wr (a0) ∧ wr (a0 * a1) ∧ wr (a0 * a1 * a2) ∧ wr (a0 * a1 * a2 * a3) ∧ wr (a0 * a1 * a2 * a3 * a4)) : Fun Tryd.prog G1 77 #[.slice (some ⟨100, 0, none⟩) 5 5] (hpL G1 [(100, ⟨#[.int .i64 a0, .int .i64 a1, .int .i64 a2, .int .i64 a3, .int .i64 a4], 3⟩)]) [100] (.ret (wd (a0 * a1 * a2 * a3 * a4)) []) := by
  have hrst : rst (hpL G1 [(100, ⟨#[.int .i64 a0, .int .i64 a1, .int .i64 a2, .int .i64 a3, .int .i64 a4], 3⟩)]) [100] = hpL G1 [(100, ⟨#[.int .i64 a0, .int .i64 a1, .int .i64 a2, .int .i64 a3, .int .i64 a4], 3⟩)] := hpL_rst G1F (by simp)
  have hfree : ∀ k, 200 ≤ k → hpL G1 [(100, ⟨#[.int .i64 a0, .int .i64 a1, .int .i64 a2, .int .i64 a3, .int .i64 a4], 3⟩)] k = none := fun k hk => by simp [show ¬ k = 100 by omega, show 100 ≤ k by omega]
  refine fun_of (B := 200) G1F (fun k hk => hpL_low (by simp) hk) Tryd.func77 rfl Tryd.call77 ?_ ?_ ⟨flatV_ids (by simp), by simp [keys], by simp, by simp⟩ (by simp [Tryd.ntmps77]) (by omega) ?_ ?_
  · rw [hrst]; simp [dom]
  · rw [hrst]
    intro k c h
    rcases hpL_mem h with h | h
    · simp at h
      rcases h with ⟨_, rfl⟩
      simp
    · exact G1_closed _ _ _ h
  · rw [hrst]; exact hfree
  · intro C hC hC0 hY
    rw [hrst] at hC0 ⊢
    obtain ⟨i0, i1, i2, i3, i4⟩ := hi
    obtain ⟨w0, w1, w2, w3, w4⟩ := hw
    have s0 := wr_sz w0
    have s1 := wr_sz w1
    have s2 := wr_sz w2
    have s3 := wr_sz w3
    have s4 := wr_sz w4
    have t1 := wr_sz (i64_wr i1)
    have t2 := wr_sz (i64_wr i2)
    have t3 := wr_sz (i64_wr i3)
    have t4 := wr_sz (i64_wr i4)
    have j1 := i64_1
    have e1 : sz 1 = 1 := by decide
    repeat' (first
      | refine GW_seq ?_
      | refine GWL_start ?_
      | refine GWL_step ?_
      | simp only [List.length_cons, List.length_nil, Nat.reduceAdd, Nat.reduceMul, thenG_normal, thenG_ret, thenG_exit, thenG_goto, thenG_panic, blockG_normal, blockG_ret, blockG_goto, blockG_panic, jumpG_normal, jumpG_ret, jumpG_exit, jumpG_panic]
      | (refine GW_region' [] (by kernel_rfl) ?_; intro Q hQ hP; simp [hC, hY, j1, e1, Int.one_mul, i0, i1, i2, i3, i4, s0, s1, s2, s3, s4, t1, t2, t3, t4]; (first | refine hQ _ _ _ _ ?_ | refine hP _ _ (fun _ => ?_)); clear hQ hP Q)
      | (refine GW_draw' [] follows (by kernel_rfl) (by kernel_rfl) ?_; intro Q hQ hP; simp [hC, hY, j1, e1, Int.one_mul, i0, i1, i2, i3, i4, s0, s1, s2, s3, s4, t1, t2, t3, t4]; (first | refine hQ _ _ _ _ (by kernel_rfl) ?_ | refine hP _ _ (by kernel_rfl) (fun _ => ?_)); clear hQ hP Q)
      | refine GW_block ?_
      | refine GW_ret ?_
      | refine GW_skip ?_
      | refine GW_exit ?_
      | refine GW_goto ?_
      | refine GW_label ?_
      | simp only [blockG_exit]
      | (refine GW_cond (by simp; rfl) ?_ ?_ <;> (intro hb; first | (exfalso; exact absurd hb (by decide)) | skip)))
    refine ⟨.inr rfl, by simp [Tryd.results77], fun k hk => ?_⟩
    have hk3 : k < 200 := Classical.byContradiction fun h => hk (hfree k (by omega))
    simp (disch := omega) only [upd_far]
    rfl
end Go.Gy
namespace Go.Gy
set_option linter.unusedSimpArgs false
set_option linter.unusedVariables false
open Go Go.RowKit Go.Proofs
def vv (x0 x1 x2 : Int) : Value := .agg #[.int .i64 x0, .int .i64 x1, .int .i64 x2]
def vb (x0 x1 x2 : Int) : Blk := ⟨#[.int .i64 x0, .int .i64 x1, .int .i64 x2], 41⟩
theorem parts_new (x0 x1 x2 : Int) (k : Nat) (h100 : 100 ≤ k) : Fun Tryd.prog G1 70 #[vv x0 x1 x2] G1 [] (.new (.func (.func 94) #[] #[.pointer (some ⟨k, 0, none⟩)]) [(k, vb x0 x1 x2)]) := by
  have e0 : rst G1 [] = G1 := rst_G G1F []
  refine new_of (B := 200) (fun j => if j = k then 200 else j) G1F (fun _ _ => rfl) Tryd.func70 rfl Tryd.call70 (by simp [vv, idsV, idsA, idsF, ids0]) (by rw [e0]; exact G1_closed _) ?_ (by simp [Tryd.ntmps70]) (by omega) (by rw [e0]; exact fun x hx => G1_big x (by omega)) (fun j hj => ?_) ?_ ?_ ?_ ?_
  · refine ⟨by simp [idsV, idsA, idsF, ids0, extD, keys], by simp [keys]; omega, fun q b c h1 h2 => ?_⟩
    simp at h1 h2
    rw [h1.2, h2.2]
  · rw [e0] at hj; have := G1_dom hj; rw [if_neg (by omega)]
  · simp [e0, dom]
  · simp
  · simp [vb, ids_lit, idsF, ids0]
  · intro C hC hC0 hY
    rw [e0]
    repeat' (first
      | refine GW_seq ?_
      | simp only [List.length_cons, List.length_nil, Nat.reduceAdd, Nat.reduceMul, thenG_normal, thenG_ret, thenG_exit, thenG_goto, thenG_panic, blockG_normal, blockG_ret, blockG_goto, blockG_panic, jumpG_normal, jumpG_ret, jumpG_exit, jumpG_panic]
      | (refine GW_region' [] (by kernel_rfl) ?_; intro Q hQ hP; simp [hC, hY, vv]; (first | refine hQ _ _ _ _ ?_ | refine hP _ _ (fun _ => ?_)); clear hQ hP Q)
      | (refine GW_draw' [] follows (by kernel_rfl) (by kernel_rfl) ?_; intro Q hQ hP; simp [hC, hY, vv]; (first | refine hQ _ _ _ _ (by kernel_rfl) ?_ | refine hP _ _ (by kernel_rfl) (fun _ => ?_)); clear hQ hP Q)
      | refine GW_block ?_
      | refine GW_ret ?_
      | refine GW_skip ?_
      | refine GW_exit ?_
      | refine GW_goto ?_
      | refine GW_label ?_
      | simp only [blockG_exit]
      | (refine GW_cond (by simp; rfl) ?_ ?_ <;> (intro hb; first | (exfalso; exact absurd hb (by decide)) | skip)))
    refine ⟨.inr trivial, ?_⟩
    simp [Tryd.results70, ren, renA, renF, ren0, vb]
    intro j hj
    have := G1_dom hj
    intro h; omega
def partsXs (x0 x1 x2 : Int) : List (Array Value) := [#[.int .i64 0, .int .i64 x0], #[.int .i64 1, .int .i64 x1], #[.int .i64 2, .int .i64 x2]]
def pHp (x0 x1 x2 : Int) : Hp := hpL G1 [(100, vb x0 x1 x2)]
theorem parts_it (x0 x1 x2 : Int) : IterG Tryd.prog G1 94 #[.pointer (some ⟨100, 0, none⟩)] (pHp x0 x1 x2) [100] (partsXs x0 x1 x2) := by
  have e0 : rst (pHp x0 x1 x2) [100] = pHp x0 x1 x2 := hpL_rst G1F (by simp)
  refine iter_of (B := 200) (v := .tuple #[]) G1F (fun k hk => hpL_low (by simp) hk) Tryd.func94 rfl Tryd.call94 ?_ ?_ (by simp [Tryd.ntmps94]) (by omega) ?_ ?_
  · rw [e0]; simp [idsV, idsA, idsF, ids0, dom, pHp]
  · rw [e0]
    intro k c hk
    rcases hpL_mem hk with h | h
    · simp at h
      rcases h with ⟨_, rfl⟩; simp [vb, ids_lit, idsF, ids0]
    · exact fun x hx => flatF_ids ((G1F k c h).2 x hx)
  · rw [e0]
    intro x hx
    have h1 : ¬ x = 100 := by omega
    have h3 : 100 ≤ x := by omega
    simp [pHp, h1, h3]
  · intro C l stop hC hC0 hY
    rw [e0] at hC0 ⊢
    by_cases h3 : 3 ≤ stop
    · have q0 : (0 != stop) = true := by simp; omega
      have q1 : (1 != stop) = true := by simp; omega
      have q2 : (2 != stop) = true := by simp; omega
      have l1 : 1 ≤ stop := by omega
      have l2 : 2 ≤ stop := by omega
      repeat' (first
        | refine GW_seq ?_
        | refine GWL_start ?_
        | refine GWL_step ?_
        | simp only [List.length_cons, List.length_nil, Nat.reduceAdd, Nat.reduceMul, thenG_normal, thenG_ret, thenG_exit, thenG_goto, thenG_panic, blockG_normal, blockG_ret, blockG_goto, blockG_panic, jumpG_normal, jumpG_ret, jumpG_exit, jumpG_panic]
        | (refine GW_region' [] (by kernel_rfl) ?_; intro Q hQ hP; simp [hC, hY, pHp, vb, partsXs, q0, q1, q2, l1, l2, h3]; (first | refine hQ _ _ _ _ ?_ | refine hP _ _ (fun _ => ?_)); clear hQ hP Q)
        | (refine GW_draw' [] follows (by kernel_rfl) (by kernel_rfl) ?_; intro Q hQ hP; simp [hC, hY, pHp, vb, partsXs, q0, q1, q2, l1, l2, h3]; (first | refine hQ _ _ _ _ (by kernel_rfl) ?_ | refine hP _ _ (by kernel_rfl) (fun _ => ?_)); clear hQ hP Q)
        | refine GW_block ?_
        | refine GW_ret ?_
        | refine GW_skip ?_
        | refine GW_exit ?_
        | refine GW_goto ?_
        | refine GW_label ?_
        | simp only [blockG_exit]
        | (refine GW_cond (by simp; rfl) ?_ ?_ <;> (intro hb; first | (exfalso; exact absurd hb (by decide)) | skip)))
      refine ⟨by simp, by simp [Tryd.results94], ?_⟩
      simp [partsXs]; omega
    · have : stop = 0 ∨ stop = 1 ∨ stop = 2 := by omega
      rcases this with rfl | rfl | rfl
      all_goals
        repeat' (first
          | refine GW_seq ?_
          | refine GWL_start ?_
          | refine GWL_step ?_
          | simp only [List.length_cons, List.length_nil, Nat.reduceAdd, Nat.reduceMul, thenG_normal, thenG_ret, thenG_exit, thenG_goto, thenG_panic, blockG_normal, blockG_ret, blockG_goto, blockG_panic, jumpG_normal, jumpG_ret, jumpG_exit, jumpG_panic]
          | (refine GW_region' [] (by kernel_rfl) ?_; intro Q hQ hP; simp [hC, hY, pHp, vb, partsXs]; (first | refine hQ _ _ _ _ ?_ | refine hP _ _ (fun _ => ?_)); clear hQ hP Q)
          | (refine GW_draw' [] follows (by kernel_rfl) (by kernel_rfl) ?_; intro Q hQ hP; simp [hC, hY, pHp, vb, partsXs]; (first | refine hQ _ _ _ _ (by kernel_rfl) ?_ | refine hP _ _ (by kernel_rfl) (fun _ => ?_)); clear hQ hP Q)
          | refine GW_block ?_
          | refine GW_ret ?_
          | refine GW_skip ?_
          | refine GW_exit ?_
          | refine GW_goto ?_
          | refine GW_label ?_
          | simp only [blockG_exit]
          | (refine GW_cond (by simp; rfl) ?_ ?_ <;> (intro hb; first | (exfalso; exact absurd hb (by decide)) | skip)))
      all_goals
        exact ⟨by simp, by simp [Tryd.results94], by simp [partsXs]⟩
theorem parts_itP (x0 x1 x2 : Int) : IterP Tryd.prog G1 94 #[.pointer (some ⟨100, 0, none⟩)] (pHp x0 x1 x2) [100] (partsXs x0 x1 x2) := by
  have e0 : rst (pHp x0 x1 x2) [100] = pHp x0 x1 x2 := hpL_rst G1F (by simp)
  refine iterp_of (B := 200) G1F (fun k hk => hpL_low (by simp) hk) Tryd.func94 rfl Tryd.call94 ?_ ?_ (by simp [Tryd.ntmps94]) (by omega) ?_ ?_
  · rw [e0]; simp [idsV, idsA, idsF, ids0, dom, pHp]
  · rw [e0]
    intro k c hk
    rcases hpL_mem hk with h | h
    · simp at h
      rcases h with ⟨_, rfl⟩; simp [vb, ids_lit, idsF, ids0]
    · exact fun x hx => flatF_ids ((G1F k c h).2 x hx)
  · rw [e0]
    intro x hx
    have h1 : ¬ x = 100 := by omega
    have h3 : 100 ≤ x := by omega
    simp [pHp, h1, h3]
  · intro pv C l stop hC hC0 hl hY
    rw [e0] at hC0 ⊢
    have : stop = 0 ∨ stop = 1 ∨ stop = 2 := by simp [partsXs] at hl; omega
    rcases this with rfl | rfl | rfl
    all_goals
      repeat' (first
        | refine GW_seq ?_
        | refine GWL_start ?_
        | refine GWL_step ?_
        | simp only [List.length_cons, List.length_nil, Nat.reduceAdd, Nat.reduceMul, thenG_normal, thenG_ret, thenG_exit, thenG_goto, thenG_panic, blockG_normal, blockG_ret, blockG_goto, blockG_panic, jumpG_normal, jumpG_ret, jumpG_exit, jumpG_panic]
        | (refine GW_region' [] (by kernel_rfl) ?_; intro Q hQ hP; simp [hC, hY, pHp, vb, partsXs]; (first | refine hQ _ _ _ _ ?_ | refine hP _ _ (fun _ => ?_)); clear hQ hP Q)
        | (refine GW_draw' [] follows (by kernel_rfl) (by kernel_rfl) ?_; intro Q hQ hP; simp [hC, hY, pHp, vb, partsXs]; (first | refine hQ _ _ _ _ (by kernel_rfl) ?_ | refine hP _ _ (by kernel_rfl) (fun _ => ?_)); clear hQ hP Q)
        | refine GW_block ?_
        | refine GW_ret ?_
        | refine GW_skip ?_
        | refine GW_exit ?_
        | refine GW_goto ?_
        | refine GW_label ?_
        | simp only [blockG_exit]
        | (refine GW_cond (by simp; rfl) ?_ ?_ <;> (intro hb; first | (exfalso; exact absurd hb (by decide)) | skip)))
end Go.Gy
namespace Go.Gy
set_option linter.unusedSimpArgs false
set_option linter.unusedVariables false
open Go Go.RowKit Go.Proofs
def inB (x : Int) : Prop := -2097152 ≤ x ∧ x ≤ 2097152
instance (x : Int) : Decidable (inB x) := by unfold inB; infer_instance
theorem inB_sq {x : Int} (h : inB x) : 0 ≤ x * x ∧ x * x ≤ 4398046511104 := by
  obtain ⟨h1, h2⟩ := h
  by_cases h0 : 0 ≤ x
  · have h : x * x ≤ 2097152 * 2097152 := Int.mul_le_mul (by omega) (by omega) h0 (by omega)
    exact ⟨Int.mul_nonneg h0 h0, by omega⟩
  · rw [← Int.neg_mul_neg]
    have h : -x * -x ≤ 2097152 * 2097152 := Int.mul_le_mul (by omega) (by omega) (by omega) (by omega)
    exact ⟨Int.mul_nonneg (by omega) (by omega), by omega⟩
theorem IterX.cast {pn : Option Value} {P : Program} {G : Hp} {f : FuncId} {caps caps' : Array Value} {hp : Hp} {rs rs' : List Nat} {xs : List (Array Value)} (h : IterX pn P G f caps hp rs xs) (e1 : caps = caps') (e2 : rs = rs') : IterX pn P G f caps' hp rs' xs := by subst e1 e2; exact h
def smHp (x0 x1 x2 : Int) (i : Nat) : Hp := hpL G1 [(200, vb x0 x1 x2), (208, ⟨#[.int .i64 (match i with | 0 => 0 | 1 => x0 * x0 | 2 => x0 * x0 + x1 * x1 | _ => x0 * x0 + x1 * x1 + x2 * x2)], 3⟩)]
def smTs : Nat → Value := tsL [(1, .pointer (some ⟨200, 0, none⟩)), (2, .pointer (some ⟨208, 0, none⟩))]
theorem psum_ok (x0 x1 x2 : Int) (h0 : inB x0) (h1 : inB x1) (h2 : inB x2) : RetP Tryd.prog G1 69 #[vv x0 x1 x2] (.ret (.int .i64 (x0 * x0 + x1 * x1 + x2 * x2))) := by
  refine retp_of G1F Tryd.func69 rfl Tryd.call69 (fun v h => by cases h; simp) (by simp [vv]) (by simp [Tryd.ntmps69]) ?_
  have z0 := inB_sq h0
  obtain ⟨l0, u0⟩ := h0
  have q0 : Int.bmod (x0 * x0) 18446744073709551616 = x0 * x0 := bm (by omega) (by omega)
  have s0 : Int.bmod (x0 * x0) 18446744073709551616 = x0 * x0 := bm (by omega) (by omega)
  have z1 := inB_sq h1
  obtain ⟨l1, u1⟩ := h1
  have q1 : Int.bmod (x1 * x1) 18446744073709551616 = x1 * x1 := bm (by omega) (by omega)
  have s1 : Int.bmod (x0 * x0 + x1 * x1) 18446744073709551616 = x0 * x0 + x1 * x1 := bm (by omega) (by omega)
  have z2 := inB_sq h2
  obtain ⟨l2, u2⟩ := h2
  have q2 : Int.bmod (x2 * x2) 18446744073709551616 = x2 * x2 := bm (by omega) (by omega)
  have s2 : Int.bmod (x0 * x0 + x1 * x1 + x2 * x2) 18446744073709551616 = x0 * x0 + x1 * x1 + x2 * x2 := bm (by omega) (by omega)
  intro C hC hC0 hY
  repeat' (first
    | refine GW_seq ?_
    | simp only [List.length_cons, List.length_nil, Nat.reduceAdd, Nat.reduceMul, thenG_normal, thenG_ret, thenG_exit, thenG_goto, thenG_panic, blockG_normal, blockG_ret, blockG_goto, blockG_panic, jumpG_normal, jumpG_ret, jumpG_exit, jumpG_panic]
    | (refine GW_region' [] (by kernel_rfl) ?_; intro Q hQ hP; simp [hC, hY, vv]; (first | refine hQ _ _ _ _ ?_ | refine hP _ _ (fun _ => ?_)); clear hQ hP Q)
    | (refine GW_draw' [] follows (by kernel_rfl) (by kernel_rfl) ?_; intro Q hQ hP; simp [hC, hY, vv]; (first | refine hQ _ _ _ _ (by kernel_rfl) ?_ | refine hP _ _ (by kernel_rfl) (fun _ => ?_)); clear hQ hP Q)
    | refine GW_block ?_
    | refine GW_ret ?_
    | refine GW_skip ?_
    | refine GW_exit ?_
    | refine GW_goto ?_
    | refine GW_label ?_
    | simp only [blockG_exit]
    | (refine GW_cond (by simp; rfl) ?_ ?_ <;> (intro hb; first | (exfalso; exact absurd hb (by decide)) | skip)))
  refine GW_region' [70] (by kernel_rfl) ?_; intro Q hQ hP; simp [hC, hY]
  refine heapK_of (parts_new x0 x1 x2 224 (by omega)) (by simp) (fun _ _ => rfl) (by simp [Res.at]) ?_
  simp
  refine hQ _ _ _ _ ?_; clear hQ hP Q
  repeat' (first
    | refine GW_seq ?_
    | simp only [List.length_cons, List.length_nil, Nat.reduceAdd, Nat.reduceMul, thenG_normal, thenG_ret, thenG_exit, thenG_goto, thenG_panic, blockG_normal, blockG_ret, blockG_goto, blockG_panic, jumpG_normal, jumpG_ret, jumpG_exit, jumpG_panic]
    | (refine GW_region' [] (by kernel_rfl) ?_; intro Q hQ hP; simp [hC, hY]; (first | refine hQ _ _ _ _ ?_ | refine hP _ _ (fun _ => ?_)); clear hQ hP Q)
    | (refine GW_draw' [] follows (by kernel_rfl) (by kernel_rfl) ?_; intro Q hQ hP; simp [hC, hY]; (first | refine hQ _ _ _ _ (by kernel_rfl) ?_ | refine hP _ _ (by kernel_rfl) (fun _ => ?_)); clear hQ hP Q)
    | refine GW_block ?_
    | refine GW_ret ?_
    | refine GW_skip ?_
    | refine GW_exit ?_
    | refine GW_goto ?_
    | refine GW_label ?_
    | simp only [blockG_exit]
    | (refine GW_cond (by simp; rfl) ?_ ?_ <;> (intro hb; first | (exfalso; exact absurd hb (by decide)) | skip)))
  refine GW_range (f := 94) (rs := [224]) (xs := partsXs x0 x1 x2) (caps := #[.pointer (some ⟨224, 0, none⟩)]) (by simp) ?_ (by simp [partsXs]) (by simp [Tryd.ntmps69]) smTs (smHp x0 x1 x2) 300 3 (by simp [partsXs]) ?_ ?_ ?_ ?_ ?_
  · rw [hC]
    refine IterX.cast (IterX.rn (fun k => if k = 100 then 224 else k) G1F (fun k hk => hpL_low (by simp) hk) (rs := [100]) ?_ (parts_it x0 x1 x2)) (by simp [ren0]) (by simp)
    refine ⟨fun k hk => ?_, ?_, ?_, ?_⟩
    · have h1 : ¬ k = 100 := by omega
      have h3 : ¬ k = 200 := by omega
      have h4 : ¬ k = 208 := by omega
      have h8 : ¬ k = 224 := by omega
      simp [h1, h3, h4, h8, pHp]
    · simp
    · simp [pHp, vb, Blk.rn, renF, ren0]
    · simp
  · refine weakL _ 300 hC G1F (m0 := []) hC0 (by omega) ?_ ?_ ?_
    · simp [idsV, idsA, idsF, ids0, dom]
    · simp [ids_lit, idsF, ids0, vb]
    · simp
  · simp [smHp, dom]
  · intro i hi t
    refine tsL_ids ?_ t
    simp [idsV, idsA, idsF, ids0, dom, smHp]
  · intro i x hi hx C1 l hC1 hh1 hY1
    have hCC := hC
    have hC1' : C1.G = G1 := hC1.trans hC
    replace hC := hC1'
    replace hY := hY1
    have : i = 0 ∨ i = 1 ∨ i = 2 := by omega
    rcases this with rfl | rfl | rfl
    all_goals
      simp [partsXs] at hx
      subst hx
      unfold smHp
    all_goals
      repeat' (first
        | refine GW_seq ?_
        | simp only [List.length_cons, List.length_nil, Nat.reduceAdd, Nat.reduceMul, thenG_normal, thenG_ret, thenG_exit, thenG_goto, thenG_panic, blockG_normal, blockG_ret, blockG_goto, blockG_panic, jumpG_normal, jumpG_ret, jumpG_exit, jumpG_panic]
        | (refine GW_region' [] (by kernel_rfl) ?_; intro Q hQ hP; simp [hC, hY, roundTs, smTs]; (first | refine hQ _ _ _ _ ?_ | refine hP _ _ (fun _ => ?_)); clear hQ hP Q)
        | (refine GW_draw' [] follows (by kernel_rfl) (by kernel_rfl) ?_; intro Q hQ hP; simp [hC, hY, roundTs, smTs]; (first | refine hQ _ _ _ _ (by kernel_rfl) ?_ | refine hP _ _ (by kernel_rfl) (fun _ => ?_)); clear hQ hP Q)
        | refine GW_block ?_
        | refine GW_ret ?_
        | refine GW_skip ?_
        | refine GW_exit ?_
        | refine GW_goto ?_
        | refine GW_label ?_
        | simp only [blockG_exit]
        | (refine GW_cond (by simp; rfl) ?_ ?_ <;> (intro hb; first | (exfalso; exact absurd hb (by decide)) | skip)))
    all_goals
      intro C2 hC2 hh2 hY2
      replace hC : C2.G = G1 := hC2.trans hCC
      replace hY := hY2
      repeat' (first
        | refine GW_seq ?_
        | simp only [List.length_cons, List.length_nil, Nat.reduceAdd, Nat.reduceMul, thenG_normal, thenG_ret, thenG_exit, thenG_goto, thenG_panic, blockG_normal, blockG_ret, blockG_goto, blockG_panic, jumpG_normal, jumpG_ret, jumpG_exit, jumpG_panic]
        | (refine GW_region' [1000093] (by kernel_rfl) ?_; intro Q hQ hP; simp [hC, hY, roundTs, smTs, lmB, l0, u0, q0, s0, l1, u1, q1, s1, l2, u2, q2, s2]; (repeat (first | ((refine callP_of (pmust_t _) ?_); try simp [hC, hY, roundTs, smTs, lmB, l0, u0, q0, s0, l1, u1, q1, s1, l2, u2, q2, s2]) | ((refine callP_of (pmust_f _) ?_); try simp [hC, hY, roundTs, smTs, lmB, l0, u0, q0, s0, l1, u1, q1, s1, l2, u2, q2, s2]))); (first | refine hQ _ _ _ _ ?_ | refine hP _ _ (fun _ => ?_)); clear hQ hP Q)
        | (refine GW_draw' [1000093] follows (by kernel_rfl) (by kernel_rfl) ?_; intro Q hQ hP; simp [hC, hY, roundTs, smTs, lmB, l0, u0, q0, s0, l1, u1, q1, s1, l2, u2, q2, s2]; (repeat (first | ((refine callP_of (pmust_t _) ?_); try simp [hC, hY, roundTs, smTs, lmB, l0, u0, q0, s0, l1, u1, q1, s1, l2, u2, q2, s2]) | ((refine callP_of (pmust_f _) ?_); try simp [hC, hY, roundTs, smTs, lmB, l0, u0, q0, s0, l1, u1, q1, s1, l2, u2, q2, s2]))); (first | refine hQ _ _ _ _ (by kernel_rfl) ?_ | refine hP _ _ (by kernel_rfl) (fun _ => ?_)); clear hQ hP Q)
        | refine GW_block ?_
        | refine GW_ret ?_
        | refine GW_skip ?_
        | refine GW_exit ?_
        | refine GW_goto ?_
        | refine GW_label ?_
        | simp only [blockG_exit]
        | (refine GW_cond (by simp; rfl) ?_ ?_ <;> (intro hb; first | (exfalso; exact absurd hb (by decide)) | skip)))
    all_goals
      refine weakL [] 300 hC1' G1F hh1 (by omega) ?_ ?_ ?_
      · simp
      · simp [ids_lit, idsF, ids0, vb]
      · simp [vb]
  · left
    refine ⟨rfl, ?_⟩
    unfold smHp smTs
    repeat' (first
      | refine GW_seq ?_
      | simp only [List.length_cons, List.length_nil, Nat.reduceAdd, Nat.reduceMul, thenG_normal, thenG_ret, thenG_exit, thenG_goto, thenG_panic, blockG_normal, blockG_ret, blockG_goto, blockG_panic, jumpG_normal, jumpG_ret, jumpG_exit, jumpG_panic]
      | (refine GW_region' [] (by kernel_rfl) ?_; intro Q hQ hP; simp [hC, hY]; (first | refine hQ _ _ _ _ ?_ | refine hP _ _ (fun _ => ?_)); clear hQ hP Q)
      | (refine GW_draw' [] follows (by kernel_rfl) (by kernel_rfl) ?_; intro Q hQ hP; simp [hC, hY]; (first | refine hQ _ _ _ _ (by kernel_rfl) ?_ | refine hP _ _ (by kernel_rfl) (fun _ => ?_)); clear hQ hP Q)
      | refine GW_block ?_
      | refine GW_ret ?_
      | refine GW_skip ?_
      | refine GW_exit ?_
      | refine GW_goto ?_
      | refine GW_label ?_
      | simp only [blockG_exit]
      | (refine GW_cond (by simp; rfl) ?_ ?_ <;> (intro hb; first | (exfalso; exact absurd hb (by decide)) | skip)))
    refine ⟨.inr trivial, ?_⟩
    simp [Tryd.results69]
theorem psum_bad0 (x0 x1 x2 : Int)  (hn : ¬ inB x0) : RetP Tryd.prog G1 69 #[vv x0 x1 x2] (.pan (erV 2)) := by
  refine retp_of G1F Tryd.func69 rfl Tryd.call69 (fun v h => by cases h) (by simp [vv]) (by simp [Tryd.ntmps69]) ?_
  intro C hC hC0 hY
  repeat' (first
    | refine GW_seq ?_
    | simp only [List.length_cons, List.length_nil, Nat.reduceAdd, Nat.reduceMul, thenG_normal, thenG_ret, thenG_exit, thenG_goto, thenG_panic, blockG_normal, blockG_ret, blockG_goto, blockG_panic, jumpG_normal, jumpG_ret, jumpG_exit, jumpG_panic]
    | (refine GW_region' [] (by kernel_rfl) ?_; intro Q hQ hP; simp [hC, hY, vv]; (first | refine hQ _ _ _ _ ?_ | refine hP _ _ (fun _ => ?_)); clear hQ hP Q)
    | (refine GW_draw' [] follows (by kernel_rfl) (by kernel_rfl) ?_; intro Q hQ hP; simp [hC, hY, vv]; (first | refine hQ _ _ _ _ (by kernel_rfl) ?_ | refine hP _ _ (by kernel_rfl) (fun _ => ?_)); clear hQ hP Q)
    | refine GW_block ?_
    | refine GW_ret ?_
    | refine GW_skip ?_
    | refine GW_exit ?_
    | refine GW_goto ?_
    | refine GW_label ?_
    | simp only [blockG_exit]
    | (refine GW_cond (by simp; rfl) ?_ ?_ <;> (intro hb; first | (exfalso; exact absurd hb (by decide)) | skip)))
  refine GW_region' [70] (by kernel_rfl) ?_; intro Q hQ hP; simp [hC, hY]
  refine heapK_of (parts_new x0 x1 x2 224 (by omega)) (by simp) (fun _ _ => rfl) (by simp [Res.at]) ?_
  simp
  refine hQ _ _ _ _ ?_; clear hQ hP Q
  repeat' (first
    | refine GW_seq ?_
    | simp only [List.length_cons, List.length_nil, Nat.reduceAdd, Nat.reduceMul, thenG_normal, thenG_ret, thenG_exit, thenG_goto, thenG_panic, blockG_normal, blockG_ret, blockG_goto, blockG_panic, jumpG_normal, jumpG_ret, jumpG_exit, jumpG_panic]
    | (refine GW_region' [] (by kernel_rfl) ?_; intro Q hQ hP; simp [hC, hY]; (first | refine hQ _ _ _ _ ?_ | refine hP _ _ (fun _ => ?_)); clear hQ hP Q)
    | (refine GW_draw' [] follows (by kernel_rfl) (by kernel_rfl) ?_; intro Q hQ hP; simp [hC, hY]; (first | refine hQ _ _ _ _ (by kernel_rfl) ?_ | refine hP _ _ (by kernel_rfl) (fun _ => ?_)); clear hQ hP Q)
    | refine GW_block ?_
    | refine GW_ret ?_
    | refine GW_skip ?_
    | refine GW_exit ?_
    | refine GW_goto ?_
    | refine GW_label ?_
    | simp only [blockG_exit]
    | (refine GW_cond (by simp; rfl) ?_ ?_ <;> (intro hb; first | (exfalso; exact absurd hb (by decide)) | skip)))
  refine GW_rangeP (erV 2) (f := 94) (rs := [224]) (xs := partsXs x0 x1 x2) (caps := #[.pointer (some ⟨224, 0, none⟩)]) (by simp) ?_ (by simp [partsXs]) (by simp [Tryd.ntmps69]) smTs (smHp x0 x1 x2) 300 0 (by simp [partsXs]) ?_ ?_ ?_ ?_ ?_ ?_
  · rw [hC]
    intro pv
    refine IterX.cast (IterX.rn (fun k => if k = 100 then 224 else k) G1F (fun k hk => hpL_low (by simp) hk) (rs := [100]) ?_ (parts_itP x0 x1 x2 pv)) (by simp [ren0]) (by simp)
    refine ⟨fun k hk => ?_, ?_, ?_, ?_⟩
    · have h1 : ¬ k = 100 := by omega
      have h3 : ¬ k = 200 := by omega
      have h4 : ¬ k = 208 := by omega
      have h8 : ¬ k = 224 := by omega
      simp [h1, h3, h4, h8, pHp]
    · simp
    · simp [pHp, vb, Blk.rn, renF, ren0]
    · simp
  · refine weakL _ 300 hC G1F (m0 := []) hC0 (by omega) ?_ ?_ ?_
    · simp [idsV, idsA, idsF, ids0, dom]
    · simp [ids_lit, idsF, ids0, vb]
    · simp
  · simp [smHp, dom]
  · intro i hi t
    refine tsL_ids ?_ t
    simp [idsV, idsA, idsF, ids0, dom, smHp]
  · intro i x hi hx C1 l hC1 hh1 hY1
    have hCC := hC
    have hC1' : C1.G = G1 := hC1.trans hC
    replace hC := hC1'
    replace hY := hY1
    omega
  · intro c hc
    rfl
  · refine ⟨#[.int .i64 0, .int .i64 x0], by simp [partsXs], ?_⟩
    intro C1 l hC1 hh1 hY1
    have hCC := hC
    have hC1' : C1.G = G1 := hC1.trans hC
    replace hC := hC1'
    replace hY := hY1
    unfold smHp
    repeat' (first
      | refine GW_seq ?_
      | simp only [List.length_cons, List.length_nil, Nat.reduceAdd, Nat.reduceMul, thenG_normal, thenG_ret, thenG_exit, thenG_goto, thenG_panic, blockG_normal, blockG_ret, blockG_goto, blockG_panic, jumpG_normal, jumpG_ret, jumpG_exit, jumpG_panic]
      | (refine GW_region' [] (by kernel_rfl) ?_; intro Q hQ hP; simp [hC, hY, roundTs, smTs]; (first | refine hQ _ _ _ _ ?_ | refine hP _ _ (fun _ => ?_)); clear hQ hP Q)
      | (refine GW_draw' [] follows (by kernel_rfl) (by kernel_rfl) ?_; intro Q hQ hP; simp [hC, hY, roundTs, smTs]; (first | refine hQ _ _ _ _ (by kernel_rfl) ?_ | refine hP _ _ (by kernel_rfl) (fun _ => ?_)); clear hQ hP Q)
      | refine GW_block ?_
      | refine GW_ret ?_
      | refine GW_skip ?_
      | refine GW_exit ?_
      | refine GW_goto ?_
      | refine GW_label ?_
      | simp only [blockG_exit]
      | (refine GW_cond (by simp; rfl) ?_ ?_ <;> (intro hb; first | (exfalso; exact absurd hb (by decide)) | skip)))
    intro C2 hC2 hh2 hY2
    replace hC : C2.G = G1 := hC2.trans hCC
    replace hY := hY2
    by_cases lo : -2097152 ≤ x0
    · have up : ¬ x0 ≤ 2097152 := fun h => hn ⟨lo, h⟩
      repeat' (first
        | refine GW_seq ?_
        | simp only [List.length_cons, List.length_nil, Nat.reduceAdd, Nat.reduceMul, thenG_normal, thenG_ret, thenG_exit, thenG_goto, thenG_panic, blockG_normal, blockG_ret, blockG_goto, blockG_panic, jumpG_normal, jumpG_ret, jumpG_exit, jumpG_panic]
        | (refine GW_region' [1000093] (by kernel_rfl) ?_; intro Q hQ hP; simp [hC, hY, roundTs, smTs, lmB, lo, up]; (repeat (first | ((refine callP_of (pmust_t _) ?_); try simp [hC, hY, roundTs, smTs, lmB, lo, up]) | ((refine callP_of (pmust_f _) ?_); try simp [hC, hY, roundTs, smTs, lmB, lo, up]))); (first | refine hQ _ _ _ _ ?_ | refine hP _ _ (fun _ => ?_)); clear hQ hP Q)
        | (refine GW_draw' [1000093] follows (by kernel_rfl) (by kernel_rfl) ?_; intro Q hQ hP; simp [hC, hY, roundTs, smTs, lmB, lo, up]; (repeat (first | ((refine callP_of (pmust_t _) ?_); try simp [hC, hY, roundTs, smTs, lmB, lo, up]) | ((refine callP_of (pmust_f _) ?_); try simp [hC, hY, roundTs, smTs, lmB, lo, up]))); (first | refine hQ _ _ _ _ (by kernel_rfl) ?_ | refine hP _ _ (by kernel_rfl) (fun _ => ?_)); clear hQ hP Q)
        | refine GW_block ?_
        | refine GW_ret ?_
        | refine GW_skip ?_
        | refine GW_exit ?_
        | refine GW_goto ?_
        | refine GW_label ?_
        | simp only [blockG_exit]
        | (refine GW_cond (by simp; rfl) ?_ ?_ <;> (intro hb; first | (exfalso; exact absurd hb (by decide)) | skip)))
      refine ⟨rfl, fun t => ?_, rfl⟩
      refine tsL_ids ?_ t
      simp [idsV, idsA, idsF, ids0, dom]
    · skip
      repeat' (first
        | refine GW_seq ?_
        | simp only [List.length_cons, List.length_nil, Nat.reduceAdd, Nat.reduceMul, thenG_normal, thenG_ret, thenG_exit, thenG_goto, thenG_panic, blockG_normal, blockG_ret, blockG_goto, blockG_panic, jumpG_normal, jumpG_ret, jumpG_exit, jumpG_panic]
        | (refine GW_region' [1000093] (by kernel_rfl) ?_; intro Q hQ hP; simp [hC, hY, roundTs, smTs, lmB, lo]; (repeat (first | ((refine callP_of (pmust_t _) ?_); try simp [hC, hY, roundTs, smTs, lmB, lo]) | ((refine callP_of (pmust_f _) ?_); try simp [hC, hY, roundTs, smTs, lmB, lo]))); (first | refine hQ _ _ _ _ ?_ | refine hP _ _ (fun _ => ?_)); clear hQ hP Q)
        | (refine GW_draw' [1000093] follows (by kernel_rfl) (by kernel_rfl) ?_; intro Q hQ hP; simp [hC, hY, roundTs, smTs, lmB, lo]; (repeat (first | ((refine callP_of (pmust_t _) ?_); try simp [hC, hY, roundTs, smTs, lmB, lo]) | ((refine callP_of (pmust_f _) ?_); try simp [hC, hY, roundTs, smTs, lmB, lo]))); (first | refine hQ _ _ _ _ (by kernel_rfl) ?_ | refine hP _ _ (by kernel_rfl) (fun _ => ?_)); clear hQ hP Q)
        | refine GW_block ?_
        | refine GW_ret ?_
        | refine GW_skip ?_
        | refine GW_exit ?_
        | refine GW_goto ?_
        | refine GW_label ?_
        | simp only [blockG_exit]
        | (refine GW_cond (by simp; rfl) ?_ ?_ <;> (intro hb; first | (exfalso; exact absurd hb (by decide)) | skip)))
      refine ⟨rfl, fun t => ?_, rfl⟩
      refine tsL_ids ?_ t
      simp [idsV, idsA, idsF, ids0, dom]
theorem psum_bad1 (x0 x1 x2 : Int) (h0 : inB x0) (hn : ¬ inB x1) : RetP Tryd.prog G1 69 #[vv x0 x1 x2] (.pan (erV 2)) := by
  refine retp_of G1F Tryd.func69 rfl Tryd.call69 (fun v h => by cases h) (by simp [vv]) (by simp [Tryd.ntmps69]) ?_
  have z0 := inB_sq h0
  obtain ⟨l0, u0⟩ := h0
  have q0 : Int.bmod (x0 * x0) 18446744073709551616 = x0 * x0 := bm (by omega) (by omega)
  have s0 : Int.bmod (x0 * x0) 18446744073709551616 = x0 * x0 := bm (by omega) (by omega)
  intro C hC hC0 hY
  repeat' (first
    | refine GW_seq ?_
    | simp only [List.length_cons, List.length_nil, Nat.reduceAdd, Nat.reduceMul, thenG_normal, thenG_ret, thenG_exit, thenG_goto, thenG_panic, blockG_normal, blockG_ret, blockG_goto, blockG_panic, jumpG_normal, jumpG_ret, jumpG_exit, jumpG_panic]
    | (refine GW_region' [] (by kernel_rfl) ?_; intro Q hQ hP; simp [hC, hY, vv]; (first | refine hQ _ _ _ _ ?_ | refine hP _ _ (fun _ => ?_)); clear hQ hP Q)
    | (refine GW_draw' [] follows (by kernel_rfl) (by kernel_rfl) ?_; intro Q hQ hP; simp [hC, hY, vv]; (first | refine hQ _ _ _ _ (by kernel_rfl) ?_ | refine hP _ _ (by kernel_rfl) (fun _ => ?_)); clear hQ hP Q)
    | refine GW_block ?_
    | refine GW_ret ?_
    | refine GW_skip ?_
    | refine GW_exit ?_
    | refine GW_goto ?_
    | refine GW_label ?_
    | simp only [blockG_exit]
    | (refine GW_cond (by simp; rfl) ?_ ?_ <;> (intro hb; first | (exfalso; exact absurd hb (by decide)) | skip)))
  refine GW_region' [70] (by kernel_rfl) ?_; intro Q hQ hP; simp [hC, hY]
  refine heapK_of (parts_new x0 x1 x2 224 (by omega)) (by simp) (fun _ _ => rfl) (by simp [Res.at]) ?_
  simp
  refine hQ _ _ _ _ ?_; clear hQ hP Q
  repeat' (first
    | refine GW_seq ?_
    | simp only [List.length_cons, List.length_nil, Nat.reduceAdd, Nat.reduceMul, thenG_normal, thenG_ret, thenG_exit, thenG_goto, thenG_panic, blockG_normal, blockG_ret, blockG_goto, blockG_panic, jumpG_normal, jumpG_ret, jumpG_exit, jumpG_panic]
    | (refine GW_region' [] (by kernel_rfl) ?_; intro Q hQ hP; simp [hC, hY]; (first | refine hQ _ _ _ _ ?_ | refine hP _ _ (fun _ => ?_)); clear hQ hP Q)
    | (refine GW_draw' [] follows (by kernel_rfl) (by kernel_rfl) ?_; intro Q hQ hP; simp [hC, hY]; (first | refine hQ _ _ _ _ (by kernel_rfl) ?_ | refine hP _ _ (by kernel_rfl) (fun _ => ?_)); clear hQ hP Q)
    | refine GW_block ?_
    | refine GW_ret ?_
    | refine GW_skip ?_
    | refine GW_exit ?_
    | refine GW_goto ?_
    | refine GW_label ?_
    | simp only [blockG_exit]
    | (refine GW_cond (by simp; rfl) ?_ ?_ <;> (intro hb; first | (exfalso; exact absurd hb (by decide)) | skip)))
  refine GW_rangeP (erV 2) (f := 94) (rs := [224]) (xs := partsXs x0 x1 x2) (caps := #[.pointer (some ⟨224, 0, none⟩)]) (by simp) ?_ (by simp [partsXs]) (by simp [Tryd.ntmps69]) smTs (smHp x0 x1 x2) 300 1 (by simp [partsXs]) ?_ ?_ ?_ ?_ ?_ ?_
  · rw [hC]
    intro pv
    refine IterX.cast (IterX.rn (fun k => if k = 100 then 224 else k) G1F (fun k hk => hpL_low (by simp) hk) (rs := [100]) ?_ (parts_itP x0 x1 x2 pv)) (by simp [ren0]) (by simp)
    refine ⟨fun k hk => ?_, ?_, ?_, ?_⟩
    · have h1 : ¬ k = 100 := by omega
      have h3 : ¬ k = 200 := by omega
      have h4 : ¬ k = 208 := by omega
      have h8 : ¬ k = 224 := by omega
      simp [h1, h3, h4, h8, pHp]
    · simp
    · simp [pHp, vb, Blk.rn, renF, ren0]
    · simp
  · refine weakL _ 300 hC G1F (m0 := []) hC0 (by omega) ?_ ?_ ?_
    · simp [idsV, idsA, idsF, ids0, dom]
    · simp [ids_lit, idsF, ids0, vb]
    · simp
  · simp [smHp, dom]
  · intro i hi t
    refine tsL_ids ?_ t
    simp [idsV, idsA, idsF, ids0, dom, smHp]
  · intro i x hi hx C1 l hC1 hh1 hY1
    have hCC := hC
    have hC1' : C1.G = G1 := hC1.trans hC
    replace hC := hC1'
    replace hY := hY1
    have : i = 0 := by omega
    subst this
    all_goals
      simp [partsXs] at hx
      subst hx
      unfold smHp
    all_goals
      repeat' (first
        | refine GW_seq ?_
        | simp only [List.length_cons, List.length_nil, Nat.reduceAdd, Nat.reduceMul, thenG_normal, thenG_ret, thenG_exit, thenG_goto, thenG_panic, blockG_normal, blockG_ret, blockG_goto, blockG_panic, jumpG_normal, jumpG_ret, jumpG_exit, jumpG_panic]
        | (refine GW_region' [] (by kernel_rfl) ?_; intro Q hQ hP; simp [hC, hY, roundTs, smTs]; (first | refine hQ _ _ _ _ ?_ | refine hP _ _ (fun _ => ?_)); clear hQ hP Q)
        | (refine GW_draw' [] follows (by kernel_rfl) (by kernel_rfl) ?_; intro Q hQ hP; simp [hC, hY, roundTs, smTs]; (first | refine hQ _ _ _ _ (by kernel_rfl) ?_ | refine hP _ _ (by kernel_rfl) (fun _ => ?_)); clear hQ hP Q)
        | refine GW_block ?_
        | refine GW_ret ?_
        | refine GW_skip ?_
        | refine GW_exit ?_
        | refine GW_goto ?_
        | refine GW_label ?_
        | simp only [blockG_exit]
        | (refine GW_cond (by simp; rfl) ?_ ?_ <;> (intro hb; first | (exfalso; exact absurd hb (by decide)) | skip)))
    all_goals
      intro C2 hC2 hh2 hY2
      replace hC : C2.G = G1 := hC2.trans hCC
      replace hY := hY2
      repeat' (first
        | refine GW_seq ?_
        | simp only [List.length_cons, List.length_nil, Nat.reduceAdd, Nat.reduceMul, thenG_normal, thenG_ret, thenG_exit, thenG_goto, thenG_panic, blockG_normal, blockG_ret, blockG_goto, blockG_panic, jumpG_normal, jumpG_ret, jumpG_exit, jumpG_panic]
        | (refine GW_region' [1000093] (by kernel_rfl) ?_; intro Q hQ hP; simp [hC, hY, roundTs, smTs, lmB, l0, u0, q0, s0]; (repeat (first | ((refine callP_of (pmust_t _) ?_); try simp [hC, hY, roundTs, smTs, lmB, l0, u0, q0, s0]) | ((refine callP_of (pmust_f _) ?_); try simp [hC, hY, roundTs, smTs, lmB, l0, u0, q0, s0]))); (first | refine hQ _ _ _ _ ?_ | refine hP _ _ (fun _ => ?_)); clear hQ hP Q)
        | (refine GW_draw' [1000093] follows (by kernel_rfl) (by kernel_rfl) ?_; intro Q hQ hP; simp [hC, hY, roundTs, smTs, lmB, l0, u0, q0, s0]; (repeat (first | ((refine callP_of (pmust_t _) ?_); try simp [hC, hY, roundTs, smTs, lmB, l0, u0, q0, s0]) | ((refine callP_of (pmust_f _) ?_); try simp [hC, hY, roundTs, smTs, lmB, l0, u0, q0, s0]))); (first | refine hQ _ _ _ _ (by kernel_rfl) ?_ | refine hP _ _ (by kernel_rfl) (fun _ => ?_)); clear hQ hP Q)
        | refine GW_block ?_
        | refine GW_ret ?_
        | refine GW_skip ?_
        | refine GW_exit ?_
        | refine GW_goto ?_
        | refine GW_label ?_
        | simp only [blockG_exit]
        | (refine GW_cond (by simp; rfl) ?_ ?_ <;> (intro hb; first | (exfalso; exact absurd hb (by decide)) | skip)))
    all_goals
      refine weakL [] 300 hC1' G1F hh1 (by omega) ?_ ?_ ?_
      · simp
      · simp [ids_lit, idsF, ids0, vb]
      · simp [vb]
  · intro c hc
    rfl
  · refine ⟨#[.int .i64 1, .int .i64 x1], by simp [partsXs], ?_⟩
    intro C1 l hC1 hh1 hY1
    have hCC := hC
    have hC1' : C1.G = G1 := hC1.trans hC
    replace hC := hC1'
    replace hY := hY1
    unfold smHp
    repeat' (first
      | refine GW_seq ?_
      | simp only [List.length_cons, List.length_nil, Nat.reduceAdd, Nat.reduceMul, thenG_normal, thenG_ret, thenG_exit, thenG_goto, thenG_panic, blockG_normal, blockG_ret, blockG_goto, blockG_panic, jumpG_normal, jumpG_ret, jumpG_exit, jumpG_panic]
      | (refine GW_region' [] (by kernel_rfl) ?_; intro Q hQ hP; simp [hC, hY, roundTs, smTs]; (first | refine hQ _ _ _ _ ?_ | refine hP _ _ (fun _ => ?_)); clear hQ hP Q)
      | (refine GW_draw' [] follows (by kernel_rfl) (by kernel_rfl) ?_; intro Q hQ hP; simp [hC, hY, roundTs, smTs]; (first | refine hQ _ _ _ _ (by kernel_rfl) ?_ | refine hP _ _ (by kernel_rfl) (fun _ => ?_)); clear hQ hP Q)
      | refine GW_block ?_
      | refine GW_ret ?_
      | refine GW_skip ?_
      | refine GW_exit ?_
      | refine GW_goto ?_
      | refine GW_label ?_
      | simp only [blockG_exit]
      | (refine GW_cond (by simp; rfl) ?_ ?_ <;> (intro hb; first | (exfalso; exact absurd hb (by decide)) | skip)))
    intro C2 hC2 hh2 hY2
    replace hC : C2.G = G1 := hC2.trans hCC
    replace hY := hY2
    by_cases lo : -2097152 ≤ x1
    · have up : ¬ x1 ≤ 2097152 := fun h => hn ⟨lo, h⟩
      repeat' (first
        | refine GW_seq ?_
        | simp only [List.length_cons, List.length_nil, Nat.reduceAdd, Nat.reduceMul, thenG_normal, thenG_ret, thenG_exit, thenG_goto, thenG_panic, blockG_normal, blockG_ret, blockG_goto, blockG_panic, jumpG_normal, jumpG_ret, jumpG_exit, jumpG_panic]
        | (refine GW_region' [1000093] (by kernel_rfl) ?_; intro Q hQ hP; simp [hC, hY, roundTs, smTs, lmB, lo, up]; (repeat (first | ((refine callP_of (pmust_t _) ?_); try simp [hC, hY, roundTs, smTs, lmB, lo, up]) | ((refine callP_of (pmust_f _) ?_); try simp [hC, hY, roundTs, smTs, lmB, lo, up]))); (first | refine hQ _ _ _ _ ?_ | refine hP _ _ (fun _ => ?_)); clear hQ hP Q)
        | (refine GW_draw' [1000093] follows (by kernel_rfl) (by kernel_rfl) ?_; intro Q hQ hP; simp [hC, hY, roundTs, smTs, lmB, lo, up]; (repeat (first | ((refine callP_of (pmust_t _) ?_); try simp [hC, hY, roundTs, smTs, lmB, lo, up]) | ((refine callP_of (pmust_f _) ?_); try simp [hC, hY, roundTs, smTs, lmB, lo, up]))); (first | refine hQ _ _ _ _ (by kernel_rfl) ?_ | refine hP _ _ (by kernel_rfl) (fun _ => ?_)); clear hQ hP Q)
        | refine GW_block ?_
        | refine GW_ret ?_
        | refine GW_skip ?_
        | refine GW_exit ?_
        | refine GW_goto ?_
        | refine GW_label ?_
        | simp only [blockG_exit]
        | (refine GW_cond (by simp; rfl) ?_ ?_ <;> (intro hb; first | (exfalso; exact absurd hb (by decide)) | skip)))
      refine ⟨rfl, fun t => ?_, rfl⟩
      refine tsL_ids ?_ t
      simp [idsV, idsA, idsF, ids0, dom]
    · skip
      repeat' (first
        | refine GW_seq ?_
        | simp only [List.length_cons, List.length_nil, Nat.reduceAdd, Nat.reduceMul, thenG_normal, thenG_ret, thenG_exit, thenG_goto, thenG_panic, blockG_normal, blockG_ret, blockG_goto, blockG_panic, jumpG_normal, jumpG_ret, jumpG_exit, jumpG_panic]
        | (refine GW_region' [1000093] (by kernel_rfl) ?_; intro Q hQ hP; simp [hC, hY, roundTs, smTs, lmB, lo]; (repeat (first | ((refine callP_of (pmust_t _) ?_); try simp [hC, hY, roundTs, smTs, lmB, lo]) | ((refine callP_of (pmust_f _) ?_); try simp [hC, hY, roundTs, smTs, lmB, lo]))); (first | refine hQ _ _ _ _ ?_ | refine hP _ _ (fun _ => ?_)); clear hQ hP Q)
        | (refine GW_draw' [1000093] follows (by kernel_rfl) (by kernel_rfl) ?_; intro Q hQ hP; simp [hC, hY, roundTs, smTs, lmB, lo]; (repeat (first | ((refine callP_of (pmust_t _) ?_); try simp [hC, hY, roundTs, smTs, lmB, lo]) | ((refine callP_of (pmust_f _) ?_); try simp [hC, hY, roundTs, smTs, lmB, lo]))); (first | refine hQ _ _ _ _ (by kernel_rfl) ?_ | refine hP _ _ (by kernel_rfl) (fun _ => ?_)); clear hQ hP Q)
        | refine GW_block ?_
        | refine GW_ret ?_
        | refine GW_skip ?_
        | refine GW_exit ?_
        | refine GW_goto ?_
        | refine GW_label ?_
        | simp only [blockG_exit]
        | (refine GW_cond (by simp; rfl) ?_ ?_ <;> (intro hb; first | (exfalso; exact absurd hb (by decide)) | skip)))
      refine ⟨rfl, fun t => ?_, rfl⟩
      refine tsL_ids ?_ t
      simp [idsV, idsA, idsF, ids0, dom]
theorem psum_bad2 (x0 x1 x2 : Int) (h0 : inB x0) (h1 : inB x1) (hn : ¬ inB x2) : RetP Tryd.prog G1 69 #[vv x0 x1 x2] (.pan (erV 2)) := by
  refine retp_of G1F Tryd.func69 rfl Tryd.call69 (fun v h => by cases h) (by simp [vv]) (by simp [Tryd.ntmps69]) ?_
  have z0 := inB_sq h0
  obtain ⟨l0, u0⟩ := h0
  have q0 : Int.bmod (x0 * x0) 18446744073709551616 = x0 * x0 := bm (by omega) (by omega)
  have s0 : Int.bmod (x0 * x0) 18446744073709551616 = x0 * x0 := bm (by omega) (by omega)
  have z1 := inB_sq h1
  obtain ⟨l1, u1⟩ := h1
  have q1 : Int.bmod (x1 * x1) 18446744073709551616 = x1 * x1 := bm (by omega) (by omega)
  have s1 : Int.bmod (x0 * x0 + x1 * x1) 18446744073709551616 = x0 * x0 + x1 * x1 := bm (by omega) (by omega)
  intro C hC hC0 hY
  repeat' (first
    | refine GW_seq ?_
    | simp only [List.length_cons, List.length_nil, Nat.reduceAdd, Nat.reduceMul, thenG_normal, thenG_ret, thenG_exit, thenG_goto, thenG_panic, blockG_normal, blockG_ret, blockG_goto, blockG_panic, jumpG_normal, jumpG_ret, jumpG_exit, jumpG_panic]
    | (refine GW_region' [] (by kernel_rfl) ?_; intro Q hQ hP; simp [hC, hY, vv]; (first | refine hQ _ _ _ _ ?_ | refine hP _ _ (fun _ => ?_)); clear hQ hP Q)
    | (refine GW_draw' [] follows (by kernel_rfl) (by kernel_rfl) ?_; intro Q hQ hP; simp [hC, hY, vv]; (first | refine hQ _ _ _ _ (by kernel_rfl) ?_ | refine hP _ _ (by kernel_rfl) (fun _ => ?_)); clear hQ hP Q)
    | refine GW_block ?_
    | refine GW_ret ?_
    | refine GW_skip ?_
    | refine GW_exit ?_
    | refine GW_goto ?_
    | refine GW_label ?_
    | simp only [blockG_exit]
    | (refine GW_cond (by simp; rfl) ?_ ?_ <;> (intro hb; first | (exfalso; exact absurd hb (by decide)) | skip)))
  refine GW_region' [70] (by kernel_rfl) ?_; intro Q hQ hP; simp [hC, hY]
  refine heapK_of (parts_new x0 x1 x2 224 (by omega)) (by simp) (fun _ _ => rfl) (by simp [Res.at]) ?_
  simp
  refine hQ _ _ _ _ ?_; clear hQ hP Q
  repeat' (first
    | refine GW_seq ?_
    | simp only [List.length_cons, List.length_nil, Nat.reduceAdd, Nat.reduceMul, thenG_normal, thenG_ret, thenG_exit, thenG_goto, thenG_panic, blockG_normal, blockG_ret, blockG_goto, blockG_panic, jumpG_normal, jumpG_ret, jumpG_exit, jumpG_panic]
    | (refine GW_region' [] (by kernel_rfl) ?_; intro Q hQ hP; simp [hC, hY]; (first | refine hQ _ _ _ _ ?_ | refine hP _ _ (fun _ => ?_)); clear hQ hP Q)
    | (refine GW_draw' [] follows (by kernel_rfl) (by kernel_rfl) ?_; intro Q hQ hP; simp [hC, hY]; (first | refine hQ _ _ _ _ (by kernel_rfl) ?_ | refine hP _ _ (by kernel_rfl) (fun _ => ?_)); clear hQ hP Q)
    | refine GW_block ?_
    | refine GW_ret ?_
    | refine GW_skip ?_
    | refine GW_exit ?_
    | refine GW_goto ?_
    | refine GW_label ?_
    | simp only [blockG_exit]
    | (refine GW_cond (by simp; rfl) ?_ ?_ <;> (intro hb; first | (exfalso; exact absurd hb (by decide)) | skip)))
  refine GW_rangeP (erV 2) (f := 94) (rs := [224]) (xs := partsXs x0 x1 x2) (caps := #[.pointer (some ⟨224, 0, none⟩)]) (by simp) ?_ (by simp [partsXs]) (by simp [Tryd.ntmps69]) smTs (smHp x0 x1 x2) 300 2 (by simp [partsXs]) ?_ ?_ ?_ ?_ ?_ ?_
  · rw [hC]
    intro pv
    refine IterX.cast (IterX.rn (fun k => if k = 100 then 224 else k) G1F (fun k hk => hpL_low (by simp) hk) (rs := [100]) ?_ (parts_itP x0 x1 x2 pv)) (by simp [ren0]) (by simp)
    refine ⟨fun k hk => ?_, ?_, ?_, ?_⟩
    · have h1 : ¬ k = 100 := by omega
      have h3 : ¬ k = 200 := by omega
      have h4 : ¬ k = 208 := by omega
      have h8 : ¬ k = 224 := by omega
      simp [h1, h3, h4, h8, pHp]
    · simp
    · simp [pHp, vb, Blk.rn, renF, ren0]
    · simp
  · refine weakL _ 300 hC G1F (m0 := []) hC0 (by omega) ?_ ?_ ?_
    · simp [idsV, idsA, idsF, ids0, dom]
    · simp [ids_lit, idsF, ids0, vb]
    · simp
  · simp [smHp, dom]
  · intro i hi t
    refine tsL_ids ?_ t
    simp [idsV, idsA, idsF, ids0, dom, smHp]
  · intro i x hi hx C1 l hC1 hh1 hY1
    have hCC := hC
    have hC1' : C1.G = G1 := hC1.trans hC
    replace hC := hC1'
    replace hY := hY1
    have : i = 0 ∨ i = 1 := by omega
    rcases this with rfl | rfl
    all_goals
      simp [partsXs] at hx
      subst hx
      unfold smHp
    all_goals
      repeat' (first
        | refine GW_seq ?_
        | simp only [List.length_cons, List.length_nil, Nat.reduceAdd, Nat.reduceMul, thenG_normal, thenG_ret, thenG_exit, thenG_goto, thenG_panic, blockG_normal, blockG_ret, blockG_goto, blockG_panic, jumpG_normal, jumpG_ret, jumpG_exit, jumpG_panic]
        | (refine GW_region' [] (by kernel_rfl) ?_; intro Q hQ hP; simp [hC, hY, roundTs, smTs]; (first | refine hQ _ _ _ _ ?_ | refine hP _ _ (fun _ => ?_)); clear hQ hP Q)
        | (refine GW_draw' [] follows (by kernel_rfl) (by kernel_rfl) ?_; intro Q hQ hP; simp [hC, hY, roundTs, smTs]; (first | refine hQ _ _ _ _ (by kernel_rfl) ?_ | refine hP _ _ (by kernel_rfl) (fun _ => ?_)); clear hQ hP Q)
        | refine GW_block ?_
        | refine GW_ret ?_
        | refine GW_skip ?_
        | refine GW_exit ?_
        | refine GW_goto ?_
        | refine GW_label ?_
        | simp only [blockG_exit]
        | (refine GW_cond (by simp; rfl) ?_ ?_ <;> (intro hb; first | (exfalso; exact absurd hb (by decide)) | skip)))
    all_goals
      intro C2 hC2 hh2 hY2
      replace hC : C2.G = G1 := hC2.trans hCC
      replace hY := hY2
      repeat' (first
        | refine GW_seq ?_
        | simp only [List.length_cons, List.length_nil, Nat.reduceAdd, Nat.reduceMul, thenG_normal, thenG_ret, thenG_exit, thenG_goto, thenG_panic, blockG_normal, blockG_ret, blockG_goto, blockG_panic, jumpG_normal, jumpG_ret, jumpG_exit, jumpG_panic]
        | (refine GW_region' [1000093] (by kernel_rfl) ?_; intro Q hQ hP; simp [hC, hY, roundTs, smTs, lmB, l0, u0, q0, s0, l1, u1, q1, s1]; (repeat (first | ((refine callP_of (pmust_t _) ?_); try simp [hC, hY, roundTs, smTs, lmB, l0, u0, q0, s0, l1, u1, q1, s1]) | ((refine callP_of (pmust_f _) ?_); try simp [hC, hY, roundTs, smTs, lmB, l0, u0, q0, s0, l1, u1, q1, s1]))); (first | refine hQ _ _ _ _ ?_ | refine hP _ _ (fun _ => ?_)); clear hQ hP Q)
        | (refine GW_draw' [1000093] follows (by kernel_rfl) (by kernel_rfl) ?_; intro Q hQ hP; simp [hC, hY, roundTs, smTs, lmB, l0, u0, q0, s0, l1, u1, q1, s1]; (repeat (first | ((refine callP_of (pmust_t _) ?_); try simp [hC, hY, roundTs, smTs, lmB, l0, u0, q0, s0, l1, u1, q1, s1]) | ((refine callP_of (pmust_f _) ?_); try simp [hC, hY, roundTs, smTs, lmB, l0, u0, q0, s0, l1, u1, q1, s1]))); (first | refine hQ _ _ _ _ (by kernel_rfl) ?_ | refine hP _ _ (by kernel_rfl) (fun _ => ?_)); clear hQ hP Q)
        | refine GW_block ?_
        | refine GW_ret ?_
        | refine GW_skip ?_
        | refine GW_exit ?_
        | refine GW_goto ?_
        | refine GW_label ?_
        | simp only [blockG_exit]
        | (refine GW_cond (by simp; rfl) ?_ ?_ <;> (intro hb; first | (exfalso; exact absurd hb (by decide)) | skip)))
    all_goals
      refine weakL [] 300 hC1' G1F hh1 (by omega) ?_ ?_ ?_
      · simp
      · simp [ids_lit, idsF, ids0, vb]
      · simp [vb]
  · intro c hc
    rfl
  · refine ⟨#[.int .i64 2, .int .i64 x2], by simp [partsXs], ?_⟩
    intro C1 l hC1 hh1 hY1
    have hCC := hC
    have hC1' : C1.G = G1 := hC1.trans hC
    replace hC := hC1'
    replace hY := hY1
    unfold smHp
    repeat' (first
      | refine GW_seq ?_
      | simp only [List.length_cons, List.length_nil, Nat.reduceAdd, Nat.reduceMul, thenG_normal, thenG_ret, thenG_exit, thenG_goto, thenG_panic, blockG_normal, blockG_ret, blockG_goto, blockG_panic, jumpG_normal, jumpG_ret, jumpG_exit, jumpG_panic]
      | (refine GW_region' [] (by kernel_rfl) ?_; intro Q hQ hP; simp [hC, hY, roundTs, smTs]; (first | refine hQ _ _ _ _ ?_ | refine hP _ _ (fun _ => ?_)); clear hQ hP Q)
      | (refine GW_draw' [] follows (by kernel_rfl) (by kernel_rfl) ?_; intro Q hQ hP; simp [hC, hY, roundTs, smTs]; (first | refine hQ _ _ _ _ (by kernel_rfl) ?_ | refine hP _ _ (by kernel_rfl) (fun _ => ?_)); clear hQ hP Q)
      | refine GW_block ?_
      | refine GW_ret ?_
      | refine GW_skip ?_
      | refine GW_exit ?_
      | refine GW_goto ?_
      | refine GW_label ?_
      | simp only [blockG_exit]
      | (refine GW_cond (by simp; rfl) ?_ ?_ <;> (intro hb; first | (exfalso; exact absurd hb (by decide)) | skip)))
    intro C2 hC2 hh2 hY2
    replace hC : C2.G = G1 := hC2.trans hCC
    replace hY := hY2
    by_cases lo : -2097152 ≤ x2
    · have up : ¬ x2 ≤ 2097152 := fun h => hn ⟨lo, h⟩
      repeat' (first
        | refine GW_seq ?_
        | simp only [List.length_cons, List.length_nil, Nat.reduceAdd, Nat.reduceMul, thenG_normal, thenG_ret, thenG_exit, thenG_goto, thenG_panic, blockG_normal, blockG_ret, blockG_goto, blockG_panic, jumpG_normal, jumpG_ret, jumpG_exit, jumpG_panic]
        | (refine GW_region' [1000093] (by kernel_rfl) ?_; intro Q hQ hP; simp [hC, hY, roundTs, smTs, lmB, lo, up]; (repeat (first | ((refine callP_of (pmust_t _) ?_); try simp [hC, hY, roundTs, smTs, lmB, lo, up]) | ((refine callP_of (pmust_f _) ?_); try simp [hC, hY, roundTs, smTs, lmB, lo, up]))); (first | refine hQ _ _ _ _ ?_ | refine hP _ _ (fun _ => ?_)); clear hQ hP Q)
        | (refine GW_draw' [1000093] follows (by kernel_rfl) (by kernel_rfl) ?_; intro Q hQ hP; simp [hC, hY, roundTs, smTs, lmB, lo, up]; (repeat (first | ((refine callP_of (pmust_t _) ?_); try simp [hC, hY, roundTs, smTs, lmB, lo, up]) | ((refine callP_of (pmust_f _) ?_); try simp [hC, hY, roundTs, smTs, lmB, lo, up]))); (first | refine hQ _ _ _ _ (by kernel_rfl) ?_ | refine hP _ _ (by kernel_rfl) (fun _ => ?_)); clear hQ hP Q)
        | refine GW_block ?_
        | refine GW_ret ?_
        | refine GW_skip ?_
        | refine GW_exit ?_
        | refine GW_goto ?_
        | refine GW_label ?_
        | simp only [blockG_exit]
        | (refine GW_cond (by simp; rfl) ?_ ?_ <;> (intro hb; first | (exfalso; exact absurd hb (by decide)) | skip)))
      refine ⟨rfl, fun t => ?_, rfl⟩
      refine tsL_ids ?_ t
      simp [idsV, idsA, idsF, ids0, dom]
    · skip
      repeat' (first
        | refine GW_seq ?_
        | simp only [List.length_cons, List.length_nil, Nat.reduceAdd, Nat.reduceMul, thenG_normal, thenG_ret, thenG_exit, thenG_goto, thenG_panic, blockG_normal, blockG_ret, blockG_goto, blockG_panic, jumpG_normal, jumpG_ret, jumpG_exit, jumpG_panic]
        | (refine GW_region' [1000093] (by kernel_rfl) ?_; intro Q hQ hP; simp [hC, hY, roundTs, smTs, lmB, lo]; (repeat (first | ((refine callP_of (pmust_t _) ?_); try simp [hC, hY, roundTs, smTs, lmB, lo]) | ((refine callP_of (pmust_f _) ?_); try simp [hC, hY, roundTs, smTs, lmB, lo]))); (first | refine hQ _ _ _ _ ?_ | refine hP _ _ (fun _ => ?_)); clear hQ hP Q)
        | (refine GW_draw' [1000093] follows (by kernel_rfl) (by kernel_rfl) ?_; intro Q hQ hP; simp [hC, hY, roundTs, smTs, lmB, lo]; (repeat (first | ((refine callP_of (pmust_t _) ?_); try simp [hC, hY, roundTs, smTs, lmB, lo]) | ((refine callP_of (pmust_f _) ?_); try simp [hC, hY, roundTs, smTs, lmB, lo]))); (first | refine hQ _ _ _ _ (by kernel_rfl) ?_ | refine hP _ _ (by kernel_rfl) (fun _ => ?_)); clear hQ hP Q)
        | refine GW_block ?_
        | refine GW_ret ?_
        | refine GW_skip ?_
        | refine GW_exit ?_
        | refine GW_goto ?_
        | refine GW_label ?_
        | simp only [blockG_exit]
        | (refine GW_cond (by simp; rfl) ?_ ?_ <;> (intro hb; first | (exfalso; exact absurd hb (by decide)) | skip)))
      refine ⟨rfl, fun t => ?_, rfl⟩
      refine tsL_ids ?_ t
      simp [idsV, idsA, idsF, ids0, dom]
end Go.Gy
