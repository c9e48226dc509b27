/-
  The ghost layer: a contract under other names; a contract where more variables are laid.
  Conditions: none beyond the hypotheses of each theorem.
-/
import Derived.Test.YtggidgaeggekhaaDoorGyQ
namespace Go.Gy
open Go Go.RowKit
section
variable {P : Program} {G : Hp}
theorem idsA_rn {ρ : Nat → Nat} {D D' : Nat → Prop} (h : ∀ k, D k → D' (ρ k)) {v : Value} (hv : idsA D v) : idsA D' (renA ρ v) := by
  cases v with
  | agg cs =>
    intro x hx
    obtain ⟨y, hy, rfl⟩ := Array.mem_map.1 hx
    exact idsF_rn h (hv y hy)
  | func f a b => exact idsF_rn (v := .func f a b) h hv
  | iface t v => exact idsF_rn (v := .iface t v) h hv
  | pointer p => cases p <;> first | exact h _ hv | trivial
  | slice p _ _ => cases p <;> first | exact h _ hv | trivial
  | map p => cases p <;> first | exact h _ hv | trivial
  | _ => trivial
theorem idsV_rn {ρ : Nat → Nat} {D D' : Nat → Prop} (h : ∀ k, D k → D' (ρ k)) {v : Value} (hv : idsV D v) : idsV D' (ren ρ v) := by
  cases v with
  | tuple vs =>
    intro x hx
    obtain ⟨y, hy, rfl⟩ := Array.mem_map.1 hx
    exact idsA_rn h (hv y hy)
  | agg cs => exact idsA_rn (v := .agg cs) h hv
  | func f a b => exact idsA_rn (v := .func f a b) h hv
  | iface t v => exact idsA_rn (v := .iface t v) h hv
  | pointer p => cases p <;> first | exact h _ hv | trivial
  | slice p _ _ => cases p <;> first | exact h _ hv | trivial
  | map p => cases p <;> first | exact h _ hv | trivial
  | _ => trivial
theorem Rn.bflat {ρ : Nat → Nat} {hp : Hp} (hGF : GFlat G) (hG : ∀ k, k < 100 → hp k = G k) {k : Nat} {b : Blk} (hk : k < 100) (hb : hp k = some b) : b.rn ρ = b := by
  have hg : G k = some b := (hG k hk).symm.trans hb
  unfold Blk.rn
  rw [map_eq_self (fun x hx => flatF_ren ((hGF k b hg).2 x hx))]
theorem Rn.back {ρ : Nat → Nat} {hp hp' : Hp} {rs : List Nat} (hGF : GFlat G) (hG : ∀ k, k < 100 → hp k = G k) (h : Rn ρ hp hp' rs) (k : Nat) (b : Blk) (hb : rst hp' (rs.map ρ) k = some b) : ∃ q c, rst hp rs q = some c ∧ ρ q = k ∧ b = c.rn ρ := by
  unfold rst at hb
  by_cases h1 : k < 100
  · simp only [h1, true_or, if_true] at hb
    have hl := h.low k h1
    rw [hl.2] at hb
    exact ⟨k, b, by simp [rst, h1, hb], hl.1, (Rn.bflat hGF hG h1 hb).symm⟩
  · by_cases hm : k ∈ rs.map ρ
    · obtain ⟨q, hq, rfl⟩ := List.mem_map.1 hm
      simp only [hm, or_true, if_true] at hb
      have hq1 : 100 ≤ q := by
        by_cases hq1 : 100 ≤ q
        · exact hq1
        · exact absurd (by rw [(h.low q (by omega)).1]; omega) h1
      obtain ⟨c, e1, e2⟩ := h.at' q hq hq1
      rw [e2] at hb; cases hb
      exact ⟨q, c, by simp [rst, hq, e1], rfl, rfl⟩
    · simp [h1, hm] at hb
theorem Rn.mem {hp : Hp} {rs : List Nat} {k : Nat} (hk : dom (rst hp rs) k) (h1 : 100 ≤ k) : k ∈ rs := by
  unfold dom rst at hk
  by_cases hm : k ∈ rs
  · exact hm
  · simp [hm] at hk; omega
theorem Rn.sat {ρ : Nat → Nat} {hp hp' : Hp} {rs : List Nat} (hGF : GFlat G) (hG : ∀ k, k < 100 → hp k = G k) (h : Rn ρ hp hp' rs) (hcl : ∀ k b, rst hp rs k = some b → b.ids (dom (rst hp rs))) {r : Nat → Nat} {W : World}
    (hsat : Sat r (dom (rst hp' (rs.map ρ))) (rst hp' (rs.map ρ)) W) (hinj : Inj r (dom (rst hp' (rs.map ρ)))) (hlow : ∀ k, k < 100 → dom (rst hp' (rs.map ρ)) k → r k = k) :
    Sat (fun k => r (ρ k)) (dom (rst hp rs)) (rst hp rs) W ∧ Inj (fun k => r (ρ k)) (dom (rst hp rs)) ∧ ∀ k, k < 100 → dom (rst hp rs) k → r (ρ k) = k := by
  refine ⟨fun k b hk => ⟨?_, hcl k b hk⟩, fun k l hk hl e => ?_, fun k hk hd => ?_⟩
  · have hd : dom (rst hp rs) k := by unfold dom; rw [hk]; simp
    have hd' := h.dom1 hd
    unfold dom at hd'
    cases hb : rst hp' (rs.map ρ) (ρ k) with
    | none => exact absurd hb hd'
    | some b' =>
      have e : b' = b.rn ρ := by
        unfold rst at hb hk
        by_cases h1 : k < 100
        · have hl := h.low k h1
          simp only [h1, true_or, if_true] at hk
          rw [hl.1] at hb
          simp only [h1, true_or, if_true] at hb
          rw [hl.2, hk] at hb
          cases hb
          exact (Rn.bflat hGF hG h1 hk).symm
        · have hm : k ∈ rs := by
            by_cases hm : k ∈ rs
            · exact hm
            · simp [h1, hm] at hk
          simp only [hm, or_true, if_true] at hk
          obtain ⟨c, e1, e2⟩ := h.at' k hm (by omega)
          rw [hk] at e1; cases e1
          have hm' : ρ k ∈ rs.map ρ := List.mem_map.2 ⟨k, hm, rfl⟩
          simp only [hm', or_true, if_true] at hb
          rw [e2] at hb; cases hb; rfl
      have := (hsat _ b' hb).1
      rw [e, Blk.rn_obj] at this
      exact this
  · have e2 := hinj _ _ (h.dom1 hk) (h.dom1 hl) e
    by_cases h1 : k < 100
    · by_cases h2 : l < 100
      · rw [(h.low k h1).1, (h.low l h2).1] at e2; exact e2
      · have := h.big l (Rn.mem hl (by omega)) (by omega)
        rw [(h.low k h1).1] at e2; omega
    · by_cases h2 : l < 100
      · have := h.big k (Rn.mem hk (by omega)) (by omega)
        rw [(h.low l h2).1] at e2; omega
      · exact h.inj k (Rn.mem hk (by omega)) l (Rn.mem hl (by omega)) (by omega) (by omega) e2
  · have := h.dom1 hd
    rw [(h.low k hk).1] at this ⊢
    exact hlow k hk this
def rnL (ρ : Nat → Nat) (ws : List (Nat × Blk)) : List (Nat × Blk) := ws.map fun p => (ρ p.1, p.2.rn ρ)
theorem keys_rnL {ρ : Nat → Nat} {ws : List (Nat × Blk)} {k : Nat} (h : k ∈ keys (rnL ρ ws)) : ∃ q ∈ keys ws, ρ q = k := by
  simp only [keys, rnL, List.map_map, List.mem_map, Function.comp] at h ⊢
  obtain ⟨p, hp, rfl⟩ := h
  exact ⟨p.1, ⟨p, hp, rfl⟩, rfl⟩
/-- A contract under other names. -/
theorem Fun.rn {f : FuncId} {args : Array Value} {hp hp' : Hp} {rs : List Nat} {v : Value} {ws : List (Nat × Blk)} (ρ : Nat → Nat) (hGF : GFlat G) (hG : ∀ k, k < 100 → hp k = G k) (h : Rn ρ hp hp' rs) (hi : Fun P G f args hp rs (.ret v ws)) :
    Fun P G f (args.map (ren ρ)) hp' (rs.map ρ) (.ret (ren ρ v) (rnL ρ ws)) := by
  refine ⟨hi.enter, fun x hx => ?_, fun k b hb => ?_, ⟨idsV_rn (fun k hk => h.dom1 hk) hi.fits.1, fun k hk => ?_, fun k b c h1 h2 => ?_, fun p hp1 => ?_⟩, fun r W hgok hsat hinj hlow => ?_⟩
  · obtain ⟨y, hy, rfl⟩ := Array.mem_map.1 hx
    exact idsV_rn (fun k hk => h.dom1 hk) (hi.ids y hy)
  · obtain ⟨q, c, h1, rfl, rfl⟩ := h.back hGF hG k b hb
    intro x hx
    obtain ⟨y, hy, rfl⟩ := Array.mem_map.1 hx
    exact idsF_rn (fun k hk => h.dom1 hk) (hi.closed q c h1 y hy)
  · obtain ⟨q, hq, rfl⟩ := keys_rnL hk
    have h1 := hi.fits.2.1 q hq
    obtain ⟨c, e1, e2⟩ := h.at' q h1.1 h1.2.2
    exact ⟨List.mem_map.2 ⟨q, h1.1, rfl⟩, by unfold dom; rw [e2]; simp, h.big q h1.1 h1.2.2⟩
  · simp only [rnL, List.mem_map, Prod.mk.injEq] at h1 h2
    obtain ⟨p, hp1, e1, rfl⟩ := h1
    obtain ⟨q, hq1, e2, rfl⟩ := h2
    have k1 := hi.fits.2.1 p.1 (mem_keys.2 ⟨p, hp1, rfl⟩)
    have k2 := hi.fits.2.1 q.1 (mem_keys.2 ⟨q, hq1, rfl⟩)
    have e3 := h.inj p.1 k1.1 q.1 k2.1 k1.2.2 k2.2.2 (e1.trans e2.symm)
    have e4 := hi.fits.2.2.1 p.1 p.2 q.2 hp1 (by rw [e3]; exact hq1)
    rw [e4]
  · simp only [rnL, List.mem_map] at hp1
    obtain ⟨p, hp1, rfl⟩ := hp1
    intro x hx
    obtain ⟨y, hy, rfl⟩ := Array.mem_map.1 hx
    exact idsF_rn (fun k hk => h.dom1 hk) (hi.fits.2.2.2 p hp1 y hy)
  · obtain ⟨s1, s2, s3⟩ := h.sat hGF hG hi.closed hsat hinj hlow
    have hrun := hi.run (fun k => r (ρ k)) W hgok s1 s2 s3
    have ha : (args.map (ren ρ)).map (ren r) = args.map (ren fun k => r (ρ k)) := by
      rw [Array.map_map]
      exact Array.map_congr_left fun x _ => ren_comp r ρ x
    rw [ha]
    refine hrun.mono fun e W' ⟨he, ht⟩ => ⟨?_, ht.os, ht.tape, ht.output, ht.size, fun k hk hnw => ht.same k hk fun p hp1 => ?_, fun p hp1 => ?_, by simp, by simp⟩
    · rw [he, ren_comp]
    · exact hnw (ρ p.1, p.2.rn ρ) (by simp only [rnL, List.mem_map]; exact ⟨p, hp1, rfl⟩)
    · simp only [List.append_nil, rnL, List.mem_map] at hp1
      obtain ⟨p, hp1, rfl⟩ := hp1
      have h1 := ht.has p (by simpa using hp1)
      refine ⟨by rw [Blk.rn_obj]; exact h1.1, fun x hx => ?_⟩
      obtain ⟨y, hy, rfl⟩ := Array.mem_map.1 hx
      exact idsF_rn (D := extD (dom (rst hp rs)) []) (fun k hk => by rw [extD_nil] at hk ⊢; exact h.dom1 hk) (h1.2 y hy)
theorem Fun.rnp {f : FuncId} {args : Array Value} {hp hp' : Hp} {rs : List Nat} {pv : Value} (ρ : Nat → Nat) (hGF : GFlat G) (hG : ∀ k, k < 100 → hp k = G k) (h : Rn ρ hp hp' rs) (hi : Fun P G f args hp rs (.pan pv)) :
    Fun P G f (args.map (ren ρ)) hp' (rs.map ρ) (.pan pv) := by
  refine ⟨hi.enter, fun x hx => ?_, fun k b hb => ?_, trivial, fun r W hgok hsat hinj hlow => ?_⟩
  · obtain ⟨y, hy, rfl⟩ := Array.mem_map.1 hx
    exact idsV_rn (fun k hk => h.dom1 hk) (hi.ids y hy)
  · obtain ⟨q, c, h1, rfl, rfl⟩ := h.back hGF hG k b hb
    intro x hx
    obtain ⟨y, hy, rfl⟩ := Array.mem_map.1 hx
    exact idsF_rn (fun k hk => h.dom1 hk) (hi.closed q c h1 y hy)
  · obtain ⟨s1, s2, s3⟩ := h.sat hGF hG hi.closed hsat hinj hlow
    have hrun := hi.run (fun k => r (ρ k)) W hgok s1 s2 s3
    have ha : (args.map (ren ρ)).map (ren r) = args.map (ren fun k => r (ρ k)) := by
      rw [Array.map_map]
      exact Array.map_congr_left fun x _ => ren_comp r ρ x
    rw [ha]
    exact hrun
/-! Where more variables are laid. -/
theorem Ret.up {G' : Hp} {f : FuncId} {args : Array Value} {v : Value} (h : Ret P G f args v) (hg : ∀ W, GOK G' W → GOK G W) : Ret P G' f args v := ⟨h.1, h.2.1, h.2.2.1, fun W hW => h.2.2.2 W (hg W hW)⟩
theorem RetP.up {G' : Hp} {f : FuncId} {args : Array Value} {o : Out} (h : RetP P G f args o) (hg : ∀ W, GOK G' W → GOK G W) : RetP P G' f args o := ⟨h.1, h.2.1, h.2.2.1, fun W hW => h.2.2.2 W (hg W hW)⟩
end
end Go.Gy
