/-
  The ghost layer, part T: contracts of functions that make blocks and hand them back.
  Conditions: none beyond the hypotheses of each theorem.
-/
import Derived.Test.YtggidgaeggekhaaDoorGyS
namespace Go.Gy
open Go Go.RowKit

theorem ren0_comp (r ρ : Nat → Nat) (v : Value) : ren0 r (ren0 ρ v) = ren0 (fun k => r (ρ k)) v := by
  cases v with
  | pointer p => cases p <;> rfl
  | slice p _ _ => cases p <;> rfl
  | map p => cases p <;> rfl
  | _ => rfl
theorem renF_comp (r ρ : Nat → Nat) (v : Value) : renF r (renF ρ v) = renF (fun k => r (ρ k)) v := by
  cases v with
  | func f a b => simp only [renF, Array.map_map]; congr 1 <;> (congr 1; funext x; exact ren0_comp r ρ x)
  | iface t v => simp only [renF, ren0_comp]
  | pointer p => cases p <;> rfl
  | slice p _ _ => cases p <;> rfl
  | map p => cases p <;> rfl
  | _ => rfl
theorem renA_comp (r ρ : Nat → Nat) (v : Value) : renA r (renA ρ v) = renA (fun k => r (ρ k)) v := by
  cases v with
  | agg cs => simp only [renA, Array.map_map]; congr 2; funext x; exact renF_comp r ρ x
  | func f a b => exact renF_comp r ρ (.func f a b)
  | iface t v => exact renF_comp r ρ (.iface t v)
  | pointer p => cases p <;> rfl
  | slice p _ _ => cases p <;> rfl
  | map p => cases p <;> rfl
  | _ => rfl
theorem ren_comp (r ρ : Nat → Nat) (v : Value) : ren r (ren ρ v) = ren (fun k => r (ρ k)) v := by
  cases v with
  | tuple vs => simp only [ren, Array.map_map]; congr 2; funext x; exact renA_comp r ρ x
  | agg cs => exact renA_comp r ρ (.agg cs)
  | func f a b => exact renA_comp r ρ (.func f a b)
  | iface t v => exact renA_comp r ρ (.iface t v)
  | pointer p => cases p <;> rfl
  | slice p _ _ => cases p <;> rfl
  | map p => cases p <;> rfl
  | _ => rfl

section
variable {P : Program} {G : Hp}

/-- **FROM A BODY TO A CONTRACT**, of a function that hands back new blocks: ρ: where, in its body's walk, what is handed back as ns lies. -/
theorem new_of {f : FuncId} {fn : Func} {c : Code} {args : Array Value} {hp : Hp} {rs : List Nat} {v : Value} {ns : List (Nat × Blk)} {B : Nat} (ρ : Nat → Nat) (hGF : GFlat G) (hG : ∀ k, k < 100 → hp k = G k) (hf : P.funcs[f]? = some fn) (hb : fn.body = some c) (hcall : ∀ a w, (callFunc f a).run P w = .ok (.enter f a) w)
    (ha : ∀ x ∈ args, idsV (dom (rst hp rs)) x) (hcl : ∀ k b, rst hp rs k = some b → b.ids (dom (rst hp rs))) (hfit : (Res.new v ns).fits hp rs) (hn : args.size ≤ fn.ntmps) (hB : 100 ≤ B) (hfree : ∀ x, B ≤ x → rst hp rs x = none)
    (hρ0 : ∀ k, dom (rst hp rs) k → ρ k = k) (hρ : ∀ p ∈ ns, ¬ dom (rst hp rs) (ρ p.1) ∧ 100 ≤ ρ p.1) (hinj : ∀ p ∈ ns, ∀ q ∈ ns, ρ p.1 = ρ q.1 → p.1 = q.1) (hbl : ∀ p ∈ ns, p.2.ids (dom (rst hp rs)))
    (h : ∀ C : Ctx, C.G = G → C.hp0 = rst hp rs → C.Y = none → GW P C fn.ntmps [] none c ⟨fun t => args.getD t undef, rst hp rs, B, 0⟩ fun e s => (e = .normal ∨ e = .ret) ∧ resG P fn.results.toList s.ts s.hp = some (ren ρ v) ∧
      (∀ p ∈ ns, s.hp (ρ p.1) = some p.2) ∧ ∀ k, dom (rst hp rs) k → s.hp k = rst hp rs k) : Fun P G f args hp rs (.new v ns) := by
  refine ⟨hcall, ha, hcl, hfit, fun r W hgok hsat hinjr hlow => callsIn_of_wp_marks hf hb ⟨fn, hf⟩ ?_⟩
  have ltW : ∀ k, dom (rst hp rs) k → r k < W.heap.size := fun k hk => by
    unfold dom at hk
    cases hb : rst hp rs k with
    | none => exact absurd hb hk
    | some b => exact (Array.getElem?_eq_some_iff.1 (hsat k b hb).1).1
  let im : Nat → Prop := fun j => ∃ i, dom (rst hp rs) i ∧ r i = j
  let C : Ctx := ⟨callE W im, rst hp rs, r, G, none⟩
  have hi : GI P C fn.ntmps [] r ⟨fun t => args.getD t undef, rst hp rs, B, 0⟩ { tmps := args.map (ren r) ++ Array.replicate (fn.ntmps - (args.map (ren r)).size) undef, defers := [] } W := by
    refine ⟨⟨by simp; omega, fun t => ?_, hsat, hinjr, ⟨fun k => k < W.heap.size ∧ ¬ im k, [], ⟨fun _ => Iff.rfl, rfl, rfl, rfl, Nat.le_refl _, fun _ _ => rfl⟩, fun k hk => hk.1, fun i hi _ hS => hS.2 ⟨i, hi, rfl⟩, ⟨rfl, List.nodup_nil⟩, by simp⟩,
      fun i hi => ⟨hi, rfl⟩, fun k hk => ?_, hlow⟩, hfree, hB, hGF, fun y hy => by cases hy⟩
    · right
      dsimp only
      by_cases ht : t < args.size
      · have hm : args[t] ∈ args := Array.getElem_mem ht
        have e : args.getD t undef = args[t] := by simp [Array.getD, ht]
        rw [e]
        refine ⟨?_, ha _ hm⟩
        have : t < (args.map (ren r)).size := by simpa using ht
        simp [Array.getElem?_append_left this, ht]
      · have e : args.getD t undef = undef := by simp [Array.getElem?_eq_none (Nat.le_of_not_lt ht)]
        rw [e]
        refine ⟨?_, ids_undef _⟩
        rw [ren_undef]
        simp only [Array.getD_eq_getD_getElem?]
        rw [Array.getElem?_append_right (by simpa using Nat.le_of_not_lt ht), Array.getElem?_replicate]
        split <;> rfl
    · show rst hp rs k = G k
      simp [rst, hk, hG k hk]
  refine wpIn_mono (h C rfl rfl rfl r _ W hi) ?_
  rintro e a' W' ⟨s', r', ⟨he, hr, hns, hhp⟩, hi'⟩
  obtain ⟨S, ms, ⟨hS, os, tape, output, size, hsame⟩, hS1, hS2, ⟨hdef, hnd⟩, hms⟩ := hi'.ri.ext
  have hkeep : ∀ i, dom (rst hp rs) i → dom s'.hp i ∧ r' i = r i := hi'.ri.keep
  have mine : ∀ W'' : World, (∀ k, k ∉ ms → W''.heap[k]? = W'.heap[k]?) → ∀ i b, s'.hp i = some b → W''.heap[r' i]? = some (b.obj r') := fun W'' hW i b hb => by
    rw [hW _ (fun hm => hi'.ri.ne_mark (by unfold dom; rw [hb]; simp) (hms _ hm).1 rfl)]
    exact (hi'.ri.sat i b hb).1
  have hend : ∀ W'' : World, W''.heap.size = W'.heap.size → W''.os = W'.os → W''.tape = W'.tape → W''.output = W'.output → (∀ k, k ∉ ms → W''.heap[k]? = W'.heap[k]?) →
      LeavesIn (Fw P none) 0 P fn a'.tmps ((Res.new v ns).holds r (dom (rst hp rs)) W) [] .returning W'' := fun W'' e1 e2 e3 e4 e5 => by
    have hsat' : Sat r' (dom s'.hp) s'.hp W'' := fun k b hk => ⟨mine W'' e5 k b hk, (hi'.ri.sat k b hk).2⟩
    have hrun := run_resG' (fn := fn) hi'.ri.rel hsat' hr
    rw [ren_comp] at hrun
    refine ⟨_, hrun, fun _ => ⟨fun k => r' (ρ k), fun k hk => ?_, rfl, ?_⟩⟩
    · simp only [hρ0 k hk]; exact (hkeep k hk).2
    · have hag : ∀ k, dom (rst hp rs) k → r' (ρ k) = r' k := fun k hk => by rw [hρ0 k hk]
      refine ⟨e2.trans os, e3.trans tape, e4.trans output, by rw [e1]; exact size, fun k hk _ => ?_, fun p hp1 => ?_, fun p hp1 => ?_, fun p hp1 q hq1 hpq => ?_⟩
      · by_cases hk' : im k
        · obtain ⟨i, hi1, rfl⟩ := hk'
          cases hb : rst hp rs i with
          | none => exact absurd hb hi1
          | some b =>
            have e : s'.hp i = some b := (hhp i hi1).trans hb
            have := mine W'' e5 i b e
            rw [(hkeep i hi1).2, Blk.obj_congr (fun k hk => (hkeep k hk).2) (hcl i b hb)] at this
            rw [this, (hsat i b hb).1]
        · have hSk : S k := (hS k).2 ⟨hk, hk'⟩
          rw [e5 k (fun hm => (hms k hm).2.1 hSk)]
          exact hsame k hSk
      · have hp1 : p ∈ ns := by simpa using hp1
        refine ⟨?_, Blk.ids_mono (fun k hk => .inl hk) (hbl p hp1)⟩
        have := mine W'' e5 _ _ (hns p hp1)
        rw [Blk.obj_congr (r := r') hag (hbl p hp1)]
        exact this
      · have hd : dom s'.hp (ρ p.1) := by unfold dom; rw [hns p hp1]; simp
        have h1 := hS2 _ hd (hρ p hp1).2
        rw [hS] at h1
        refine Classical.byContradiction fun hlt => h1 ⟨by omega, fun ⟨i, hi1, e⟩ => ?_⟩
        have := hi'.ri.inj i (ρ p.1) (hkeep i hi1).1 hd ((hkeep i hi1).2.trans e)
        exact (hρ p hp1).1 (this ▸ hi1)
      · have hd : ∀ x ∈ ns, dom s'.hp (ρ x.1) := fun x hx => by unfold dom; rw [hns x hx]; simp
        exact hinj p hp1 q hq1 (hi'.ri.inj _ _ (hd p hp1) (hd q hq1) hpq)
  rcases he with rfl | rfl
  · show LeavesInM _ _ _ _ _ _ a'.defers _ _
    rw [hdef, List.append_nil]
    exact leavesM (by simp) ms W' hnd (fun D hD => (hms D hD).1) hend
  · show LeavesInM _ _ _ _ _ _ a'.defers _ _
    rw [hdef, List.append_nil]
    exact leavesM (by simp) ms W' hnd (fun D hD => (hms D hD).1) hend

/-! a contract under other names -/
def Blk.rn (ρ : Nat → Nat) (b : Blk) : Blk := ⟨b.c.map (renF ρ), b.T⟩
theorem Blk.rn_obj (r ρ : Nat → Nat) (b : Blk) : (b.rn ρ).obj r = b.obj (fun k => r (ρ k)) := by
  simp only [Blk.rn, Blk.obj, Array.map_map]
  congr 2
  funext x
  exact renF_comp r ρ x
theorem ids0_rn {ρ : Nat → Nat} {D D' : Nat → Prop} (h : ∀ k, D k → D' (ρ k)) {v : Value} (hv : ids0 D v) : ids0 D' (ren0 ρ v) := by
  cases v with
  | pointer p => cases p <;> first | exact h _ hv | trivial
  | slice p _ _ => cases p <;> first | exact h _ hv | trivial
  | map p => cases p <;> first | exact h _ hv | trivial
  | _ => trivial
theorem idsF_rn {ρ : Nat → Nat} {D D' : Nat → Prop} (h : ∀ k, D k → D' (ρ k)) {v : Value} (hv : idsF D v) : idsF D' (renF ρ v) := by
  cases v with
  | func f a b =>
    refine ⟨fun x hx => ?_, fun x hx => ?_⟩
    · obtain ⟨y, hy, rfl⟩ := Array.mem_map.1 hx; exact ids0_rn h (hv.1 y hy)
    · obtain ⟨y, hy, rfl⟩ := Array.mem_map.1 hx; exact ids0_rn h (hv.2 y hy)
  | iface t v => exact ids0_rn (v := v) h hv
  | pointer p => cases p <;> first | exact h _ hv | trivial
  | slice p _ _ => cases p <;> first | exact h _ hv | trivial
  | map p => cases p <;> first | exact h _ hv | trivial
  | _ => trivial
/-- Blocks under other names. -/
structure Rn (ρ : Nat → Nat) (hp hp' : Hp) (rs : List Nat) : Prop where
  low : ∀ k, k < 100 → ρ k = k ∧ hp' k = hp k
  big : ∀ k ∈ rs, 100 ≤ k → 100 ≤ ρ k
  at' : ∀ k ∈ rs, 100 ≤ k → ∃ b, hp k = some b ∧ hp' (ρ k) = some (b.rn ρ)
  inj : ∀ k ∈ rs, ∀ l ∈ rs, 100 ≤ k → 100 ≤ l → ρ k = ρ l → k = l
theorem Rn.dom1 {ρ : Nat → Nat} {hp hp' : Hp} {rs : List Nat} (h : Rn ρ hp hp' rs) {k : Nat} (hk : dom (rst hp rs) k) : dom (rst hp' (rs.map ρ)) (ρ k) := by
  unfold dom rst at *
  by_cases h1 : k < 100
  · have := h.low k h1
    rw [this.1]
    simp only [h1, true_or, if_true] at hk ⊢
    rw [this.2]; exact hk
  · have hm : k ∈ rs := by
      by_cases hm : k ∈ rs
      · exact hm
      · simp [h1, hm] at hk
    obtain ⟨b, e1, e2⟩ := h.at' k hm (by omega)
    have : ρ k ∈ rs.map ρ := List.mem_map.2 ⟨k, hm, rfl⟩
    simp [this, e2]
theorem IterX.rn {pn : Option Value} {f : FuncId} {caps : Array Value} {hp hp' : Hp} {rs : List Nat} {xs : List (Array Value)} (ρ : Nat → Nat) (hGF : GFlat G) (hG : ∀ k, k < 100 → hp k = G k) (h : Rn ρ hp hp' rs) (hi : IterX pn P G f caps hp rs xs) : IterX pn P G f (caps.map (ren0 ρ)) hp' (rs.map ρ) xs := by
  have hpl : ∀ x, plain0 x = true → plain0 (ren0 ρ x) = true := fun x hx => by
    cases x with
    | pointer p => cases p <;> rfl
    | slice p _ _ => cases p <;> rfl
    | map p => cases p <;> rfl
    | _ => exact hx
  have bflat : ∀ k b, k < 100 → hp k = some b → b.rn ρ = b := fun k b hk hb => by
    have hg : G k = some b := (hG k hk).symm.trans hb
    unfold Blk.rn
    rw [map_eq_self (fun x hx => flatF_ren ((hGF k b hg).2 x hx))]
  have back : ∀ k b, rst hp' (rs.map ρ) k = some b → ∃ q c, rst hp rs q = some c ∧ ρ q = k ∧ b = c.rn ρ := fun k b hb => by
    unfold rst at hb
    by_cases h1 : k < 100
    · simp only [h1, true_or, if_true] at hb
      have hl := h.low k h1
      rw [hl.2] at hb
      exact ⟨k, b, by simp [rst, h1, hb], hl.1, (bflat k b h1 hb).symm⟩
    · by_cases hm : k ∈ rs.map ρ
      · obtain ⟨q, hq, rfl⟩ := List.mem_map.1 hm
        simp only [hm, or_true, if_true] at hb
        have hq1 : 100 ≤ q := by
          by_cases hq1 : 100 ≤ q
          · exact hq1
          · exact absurd (by rw [(h.low q (by omega)).1]; omega) h1
        obtain ⟨c, e1, e2⟩ := h.at' q hq hq1
        rw [e2] at hb; cases hb
        exact ⟨q, c, by simp [rst, hq, e1], rfl, rfl⟩
      · simp [h1, hm] at hb
  refine ⟨hi.enter, fun x hx => ?_, fun k b hb => ?_, fun E l stop r S W hgok hsat hinj hlow hlen hR hX hS hdis => ?_⟩
  · obtain ⟨y, hy, rfl⟩ := Array.mem_map.1 hx
    have := hi.cids y hy
    exact ⟨hpl y this.1, (ids_plain0 (hpl y this.1)).2 (ids0_rn (fun k hk => h.dom1 hk) ((ids_plain0 this.1).1 this.2))⟩
  · obtain ⟨q, c, h1, rfl, rfl⟩ := back k b hb
    intro x hx
    obtain ⟨y, hy, rfl⟩ := Array.mem_map.1 hx
    exact idsF_rn (fun k hk => h.dom1 hk) (hi.closed q c h1 y hy)
  · have hcap : (caps.map (ren0 ρ)).map (ren r) = caps.map (ren fun k => r (ρ k)) := by
      rw [Array.map_map]
      refine Array.map_congr_left fun x hx => ?_
      have := (hi.cids x hx).1
      simp only [Function.comp]
      rw [← ren_plain0 (r := ρ) this, ren_comp]
    rw [hcap]
    refine hi.run E l stop (fun k => r (ρ k)) S W hgok (fun k b hk => ⟨?_, hi.closed k b hk⟩) (fun k l hk hl e => ?_) (fun k hk hd => ?_) hlen hR hX hS (fun i hd h1 => ?_)
    · have hd : dom (rst hp rs) k := by unfold dom; rw [hk]; simp
      have hd' := h.dom1 hd
      unfold dom at hd'
      cases hb : rst hp' (rs.map ρ) (ρ k) with
      | none => exact absurd hb hd'
      | some b' =>
        have e : b' = b.rn ρ := by
          unfold rst at hb hk
          by_cases h1 : k < 100
          · have hl := h.low k h1
            simp only [h1, true_or, if_true] at hk
            rw [hl.1] at hb
            simp only [h1, true_or, if_true] at hb
            rw [hl.2, hk] at hb
            cases hb
            exact (bflat k b h1 hk).symm
          · have hm : k ∈ rs := by
              by_cases hm : k ∈ rs
              · exact hm
              · simp [h1, hm] at hk
            simp only [hm, or_true, if_true] at hk
            obtain ⟨c, e1, e2⟩ := h.at' k hm (by omega)
            rw [hk] at e1; cases e1
            have hm' : ρ k ∈ rs.map ρ := List.mem_map.2 ⟨k, hm, rfl⟩
            simp only [hm', or_true, if_true] at hb
            rw [e2] at hb; cases hb; rfl
        have := (hsat _ b' hb).1
        rw [e, Blk.rn_obj] at this
        exact this
    · have e2 := hinj _ _ (h.dom1 hk) (h.dom1 hl) e
      have mem : ∀ k, dom (rst hp rs) k → 100 ≤ k → k ∈ rs := fun k hk h1 => by
        unfold dom rst at hk
        by_cases hm : k ∈ rs
        · exact hm
        · simp [hm] at hk; omega
      by_cases h1 : k < 100
      · by_cases h2 : l < 100
        · rw [(h.low k h1).1, (h.low l h2).1] at e2; exact e2
        · have := h.big l (mem l hl (by omega)) (by omega)
          rw [(h.low k h1).1] at e2; omega
      · by_cases h2 : l < 100
        · have := h.big k (mem k hk (by omega)) (by omega)
          rw [(h.low l h2).1] at e2; omega
        · exact h.inj k (mem k hk (by omega)) l (mem l hl (by omega)) (by omega) (by omega) e2
    · show r (ρ k) = k
      have := h.dom1 hd
      rw [(h.low k hk).1] at this ⊢
      exact hlow k hk this
    · refine hdis _ (h.dom1 hd) (h.big i ?_ h1)
      unfold dom rst at hd
      by_cases hm : i ∈ rs
      · exact hm
      · simp [hm] at hd; omega
end
end Go.Gy
