/-
  Lemmas of this claim, in their order (GyLA, GyV2, GyVA, GyM, GyX1, GyX2, GyX3, GyX4, GyX5, GyX6, GyL2, GyX7, GyQ1, GyY1, GyY2, GyY3, GyY4, GyY5).
  Conditions: those of each theorem.
-/
import Derived.Test.YtfedlkjhfnlnbaaGreatDoorGz03
import Derived.Laws.Externs
import Derived.Laws.MathBits
namespace Go.Gy
open Go Go.RowKit
def Blk.fx (b : Blk) : Prop := match b.T with
  | .ty _ => ∀ x ∈ b.c, flatF x = true
  | .raw _ _ => True
  | .mp => False
theorem Blk.fx_ids {b : Blk} (h : b.fx) (D : Nat → Prop) : b.ids D := by
  obtain ⟨c, T⟩ := b
  cases T with
  | ty t => exact Blk.flat_ids (b := ⟨c, .ty t⟩) h
  | raw t fr => trivial
  | mp => exact h.elim
theorem Blk.fx_rd {b : Blk} (h : b.fx) : b.T.rd = true := by
  obtain ⟨c, T⟩ := b
  cases T with
  | ty t => rfl
  | raw t fr => rfl
  | mp => exact h.elim
theorem Blk.fx_rn {b : Blk} (h : b.fx) (ρ : Nat → Nat) : b.rn ρ = b := by
  obtain ⟨c, T⟩ := b
  cases T with
  | ty t => exact Blk.rn_flat (b := ⟨c, .ty t⟩) h
  | raw t fr => rfl
  | mp => exact h.elim
theorem fx_map {cs : Array Value} (h : ∀ x ∈ cs, flatF x = true) (ρ : Nat → Nat) : cs.map (renF ρ) = cs := by
  have := Blk.rn_flat (ρ := ρ) (b := ⟨cs, .ty 0⟩) h
  simpa [Blk.rn] using this
section
variable {P : Program} {G : Hp}
structure LOk (m : List (Nat × Blk)) (B : Nat) : Prop where
  big : ∀ p ∈ m, 100 ≤ p.1 ∧ p.1 < B
  one : (keys m).Nodup
  ids : ∀ p ∈ m, p.2.ids fun k => k ∈ keys m
theorem LOk.at {m : List (Nat × Blk)} (hn : (keys m).Nodup) : ∀ p ∈ m, hpL G m p.1 = some p.2 := by
  induction m with
  | nil => intro p hp; cases hp
  | cons q m ih =>
    obtain ⟨k, b⟩ := q
    intro p hp
    simp only [keys, List.map_cons, List.nodup_cons] at hn
    rw [hpL_cons]
    rcases List.mem_cons.1 hp with rfl | hp
    · simp
    · have hne : ¬ p.1 = k := fun e => hn.1 (by rw [← e]; exact List.mem_map.2 ⟨p, hp, rfl⟩)
      rw [if_neg hne]
      exact ih hn.2 p hp
theorem LOk.low {m : List (Nat × Blk)} {B : Nat} (h : LOk m B) : ∀ k, k < 100 → hpL G m k = G k := fun _ hk => hpL_low (fun p hp => (h.big p hp).1) hk
theorem LOk.rst {m : List (Nat × Blk)} (hGF : GFlat G) : rst (hpL G m) (keys m) = hpL G m := hpL_rst hGF fun p hp => mem_keys.2 ⟨p, hp, rfl⟩
theorem LOk.sub {m : List (Nat × Blk)} {B : Nat} (h : LOk m B) (k : Nat) (hk : k ∈ keys m) : dom (hpL G m) k := by
  obtain ⟨p, hp, rfl⟩ := mem_keys.1 hk
  unfold dom; rw [LOk.at h.one p hp]; simp
theorem LOk.closed {m : List (Nat × Blk)} {B : Nat} (hGF : GFlat G) (h : LOk m B) (k : Nat) (b : Blk) (hk : hpL G m k = some b) : b.ids (dom (hpL G m)) := by
  rcases hpL_mem hk with h1 | h1
  · exact Blk.ids_mono (fun q hq => h.sub q hq) (h.ids (k, b) h1)
  · exact Blk.flat_ids (hGF k b h1).2
theorem LOk.free {m : List (Nat × Blk)} {B : Nat} (hGF : GFlat G) (hB : 100 ≤ B) (h : LOk m B) (x : Nat) (hx : B ≤ x) : hpL G m x = none := by
  cases hb : hpL G m x with
  | none => rfl
  | some b =>
    rcases hpL_mem hb with h1 | h1
    · have := (h.big _ h1).2; simp at this; omega
    · have := (hGF x b h1).1; omega
theorem fun_ofL {f : FuncId} {fn : Func} {c : Code} {args : Array Value} {m : List (Nat × Blk)} {v : Value} {ws : List (Nat × Blk)} {B : Nat} (hGF : GFlat G) (hf : P.funcs[f]? = some fn) (hb : fn.body = some c) (hcall : ∀ a w, (callFunc f a).run P w = .ok (.enter f a) w)
    (hm : LOk m B) (ha : ∀ x ∈ args, idsV (fun k => k ∈ keys m) x) (hv : idsV (fun k => k ∈ keys m) v) (hw : ∀ p ∈ ws, p.1 ∈ keys m ∧ p.2.ids (fun k => k ∈ keys m)) (hw1 : ∀ k b c, (k, b) ∈ ws → (k, c) ∈ ws → b = c) (hn : args.size ≤ fn.ntmps) (hB : 100 ≤ B)
    (h : ∀ C : Ctx, C.G = G → C.hp0 = hpL G m → C.Y = none → GW P C fn.ntmps [] none c ⟨fun t => args.getD t undef, hpL G m, B, 0⟩ (resP P fn (hpL G m) (.ret v ws))) : Fun P G f args (hpL G m) (keys m) (.ret v ws) := by
  have e := LOk.rst (m := m) hGF
  refine fun_of (B := B) hGF hm.low hf hb hcall (by rw [e]; exact fun x hx => idsV_mono (fun q hq => hm.sub q hq) (ha x hx)) (by rw [e]; exact hm.closed hGF) ⟨by rw [e]; exact idsV_mono (fun q hq => hm.sub q hq) hv, fun k hk => ?_, hw1, fun p hp => ?_⟩ hn hB (by rw [e]; exact hm.free hGF hB) (by rw [e]; exact h)
  · obtain ⟨p, hp, rfl⟩ := mem_keys.1 hk
    have := (hw p hp).1
    obtain ⟨q, hq, e1⟩ := mem_keys.1 this
    exact ⟨this, hm.sub _ this, by rw [← e1]; exact (hm.big q hq).1⟩
  · rw [e]; exact Blk.ids_mono (fun q hq => hm.sub q hq) (hw p hp).2
theorem iterk_ofL {f : FuncId} {fn : Func} {c : Code} {caps : Array Value} {m : List (Nat × Blk)} {xs : List (Array Value)} {B : Nat} {v : Value} (hGF : GFlat G) (hf : P.funcs[f]? = some fn) (hb : fn.body = some c) (hcall : ∀ a w, (callFunc f a).run P w = .ok (.enter f a) w)
    (hm : LOk m B) (ha : ∀ x ∈ caps, plain0 x = true ∧ idsV (fun k => k ∈ keys m) x) (hn : caps.size + 1 ≤ fn.ntmps) (hB : 100 ≤ B)
    (h : ∀ (C : Ctx) (l stop : Nat), C.G = G → C.hp0 = hpL G m → C.Y = some ⟨l, xs, stop, none⟩ → GW P C fn.ntmps [] none c ⟨fun t => (#[Value.func (.yield l) #[] #[]] ++ caps).getD t undef, hpL G m, B, 0⟩
      (fun e s => (e = .normal ∨ e = .ret) ∧ resG P fn.results.toList s.ts s.hp = some v ∧ s.yc = min (stop + 1) xs.length ∧ ∀ k, dom (hpL G m) k → s.hp k = hpL G m k)) : IterK P G f caps (hpL G m) (keys m) xs := by
  have e := LOk.rst (m := m) hGF
  exact iterk_of (B := B) (v := v) hGF hm.low hf hb hcall (by rw [e]; exact fun x hx => ⟨(ha x hx).1, idsV_mono (fun q hq => hm.sub q hq) (ha x hx).2⟩) (by rw [e]; exact hm.closed hGF) hn hB (by rw [e]; exact hm.free hGF hB) (by rw [e]; exact h)
theorem newS_ofL {f : FuncId} {fn : Func} {c : Code} {args : Array Value} {m : List (Nat × Blk)} {R : Value → List (Nat × Blk) → Prop} {B : Nat} (hGF : GFlat G) (hf : P.funcs[f]? = some fn) (hb : fn.body = some c) (hcall : ∀ a w, (callFunc f a).run P w = .ok (.enter f a) w)
    (hm : LOk m B) (ha : ∀ x ∈ args, idsV (fun k => k ∈ keys m) x)
    (hfit : ∀ v ns, R v ns → idsV (extD (fun k => k ∈ keys m) ns) v ∧ (∀ p ∈ ns, B ≤ p.1 ∧ p.2.ids (extD (fun k => k ∈ keys m) ns)) ∧ (∀ k b c, (k, b) ∈ ns → (k, c) ∈ ns → b = c))
    (hn : args.size ≤ fn.ntmps) (hB : 100 ≤ B)
    (h : ∀ C : Ctx, C.G = G → C.hp0 = hpL G m → C.Y = none → GW P C fn.ntmps [] none c ⟨fun t => args.getD t undef, hpL G m, B, 0⟩ fun e s => (e = .normal ∨ e = .ret) ∧ (∀ k, dom (hpL G m) k → s.hp k = hpL G m k) ∧
      ∃ v ns ρ, R v ns ∧ (∀ k, k < B → ρ k = k) ∧ (∀ p ∈ ns, B ≤ ρ p.1) ∧ (∀ p ∈ ns, ∀ q ∈ ns, ρ p.1 = ρ q.1 → p.1 = q.1) ∧ resG P fn.results.toList s.ts s.hp = some (ren ρ v) ∧ ∀ p ∈ ns, s.hp (ρ p.1) = some (p.2.rn ρ)) : FunS P G f args (hpL G m) (keys m) R := by
  have e := LOk.rst (m := m) hGF
  have hlt : ∀ k, dom (hpL G m) k → k < B := fun k hk => by
    refine Classical.byContradiction fun h1 => hk (hm.free hGF hB k (by omega))
  have ext : ∀ ns k, extD (fun k => k ∈ keys m) ns k → extD (dom (hpL G m)) ns k := fun ns k hk => hk.imp (fun h1 => hm.sub k h1) id
  refine newS_of (B := B) hGF hm.low hf hb hcall (by rw [e]; exact fun x hx => idsV_mono (fun q hq => hm.sub q hq) (ha x hx)) (by rw [e]; exact hm.closed hGF) (fun v ns hR => ?_) hn hB (by rw [e]; exact hm.free hGF hB) (fun C h1 h2 h3 => ?_)
  · rw [e]
    obtain ⟨f1, f2, f3⟩ := hfit v ns hR
    refine ⟨idsV_mono (ext ns) f1, fun k hk => ?_, f3, fun p hp => Blk.ids_mono (ext ns) (f2 p hp).2⟩
    obtain ⟨p, hp, rfl⟩ := mem_keys.1 hk
    have := (f2 p hp).1
    exact ⟨by omega, fun hd => by have := hlt _ hd; omega⟩
  · rw [e] at h2 ⊢
    refine GW_mono (h C h1 h2 h3) fun e s => fun ⟨q1, q2, v, ns, ρ, q3, q4, q5, q6, q7, q8⟩ => ⟨q1, q2, v, ns, ρ, q3, fun k hk => q4 k (hlt k hk), fun p hp => ?_, q6, q7, q8⟩
    have := q5 p hp
    exact ⟨fun hd => by have := hlt _ hd; omega, by omega⟩
theorem keep_of {m : List (Nat × Blk)} (hGF : GFlat G) {hp : Hp} (h1 : ∀ p ∈ m, hp p.1 = hpL G m p.1) (h2 : ∀ k, k < 100 → hp k = hpL G m k) : ∀ k, dom (hpL G m) k → hp k = hpL G m k := fun k hk => by
  unfold dom at hk
  cases hb : hpL G m k with
  | none => exact absurd hb hk
  | some b =>
    rw [← hb]
    rcases hpL_mem hb with h | h
    · exact h1 _ h
    · exact h2 k (hGF k b h).1
theorem rn_ofL {m : List (Nat × Blk)} {B : Nat} (hm : LOk m B) (ρ : Nat → Nat) (hlow : ∀ k, k < 100 → ρ k = k) {hp : Hp} (hp0 : ∀ k, k < 100 → hp k = G k) (hat : ∀ p ∈ m, 100 ≤ ρ p.1 ∧ hp (ρ p.1) = some (p.2.rn ρ)) (hinj : ∀ k ∈ keys m, ∀ l ∈ keys m, ρ k = ρ l → k = l) : Rn ρ (hpL G m) hp (keys m) := by
  refine ⟨fun k hk => ⟨hlow k hk, by rw [hp0 k hk, hm.low k hk]⟩, fun k hk _ => ?_, fun k hk _ => ?_, fun k hk l hl _ _ e => ?_⟩
  · obtain ⟨p, hp, rfl⟩ := mem_keys.1 hk
    exact (hat p hp).1
  · obtain ⟨p, hp, rfl⟩ := mem_keys.1 hk
    exact ⟨p.2, LOk.at hm.one p hp, (hat p hp).2⟩
  · exact hinj k hk l hl e
theorem heapK_mvG {f : FuncId} {args args' : Array Value} {m ws : List (Nat × Blk)} {B : Nat} {v : Value} {hp : Hp} {nk : Nat} {K : Eff → Prop} (h : Fun P G f args (hpL G m) (keys m) (.ret v ws)) (hGF : GFlat G) (hm : LOk m B) (ρ : Nat → Nat) (hlow : ∀ k, k < 100 → ρ k = k) (ea : args.map (ren ρ) = args')
    (hat : ∀ p ∈ m, 100 ≤ ρ p.1 ∧ hp (ρ p.1) = some (p.2.rn ρ)) (hinj : ∀ k ∈ keys m, ∀ l ∈ keys m, ρ k = ρ l → k = l) (hK : K ((Res.ret (ren ρ v) (rnL ρ ws)).eff ((keys m).map ρ))) : heapK P G f args' hp nk K := by
  let hp' : Hp := fun k => if k < 100 then G k else hp k
  have h1 : Rn ρ (hpL G m) hp' (keys m) := rn_ofL hm ρ hlow (fun k hk => by simp [hp', hk]) (fun p hp1 => ⟨(hat p hp1).1, by
    show (if ρ p.1 < 100 then G (ρ p.1) else hp (ρ p.1)) = _
    have := (hat p hp1).1
    rw [if_neg (by omega)]; exact (hat p hp1).2⟩) hinj
  subst ea
  refine heapK_of (h.rn ρ hGF hm.low h1) (fun k hk => ?_) (fun k hk => by simp [hp', hk]) (by exact trivial) hK
  obtain ⟨q, hq, rfl⟩ := List.mem_map.1 hk
  obtain ⟨p, hp1, rfl⟩ := mem_keys.1 hq
  show (if ρ p.1 < 100 then G (ρ p.1) else hp (ρ p.1)) = _
  have := (hat p hp1).1
  rw [if_neg (by omega)]
theorem heapK_mv {f : FuncId} {args args' : Array Value} {m : List (Nat × Blk)} {B : Nat} {v : Value} {hp : Hp} {nk : Nat} {K : Eff → Prop} (h : Fun P G f args (hpL G m) (keys m) (.ret v [])) (hGF : GFlat G) (hm : LOk m B) (ρ : Nat → Nat) (hlow : ∀ k, k < 100 → ρ k = k) (ea : args.map (ren ρ) = args') (hv : flatV v = true)
    (hat : ∀ p ∈ m, 100 ≤ ρ p.1 ∧ hp (ρ p.1) = some (p.2.rn ρ)) (hinj : ∀ k ∈ keys m, ∀ l ∈ keys m, ρ k = ρ l → k = l) {rs : List Nat} (er : (keys m).map ρ = rs) (hK : K ((Res.ret v []).eff rs)) : heapK P G f args' hp nk K :=
  heapK_mvG h hGF hm ρ hlow ea hat hinj (by rw [flatV_ren hv, er]; exact hK)
theorem iterk_mv {f : FuncId} {caps caps' : Array Value} {m : List (Nat × Blk)} {B : Nat} {xs : List (Array Value)} {hp : Hp} {rs : List Nat} (h : IterK P G f caps (hpL G m) (keys m) xs) (hGF : GFlat G) (hm : LOk m B) (ρ : Nat → Nat) (hlow : ∀ k, k < 100 → ρ k = k) (ea : caps.map (ren0 ρ) = caps') (er : (keys m).map ρ = rs)
    (hp0 : ∀ k, k < 100 → hp k = G k) (hat : ∀ p ∈ m, 100 ≤ ρ p.1 ∧ hp (ρ p.1) = some (p.2.rn ρ)) (hinj : ∀ k ∈ keys m, ∀ l ∈ keys m, ρ k = ρ l → k = l) : IterK P G f caps' hp rs xs := by
  subst ea er
  exact h.rn ρ hGF hm.low (rn_ofL hm ρ hlow hp0 hat hinj)
end
section
variable {P : Program} {C : Ctx} {n : Nat} {d : List Deferred} {s : GS} {K : Exit → GS → Prop} {G : Hp}
theorem renA_id (v : Value) : renA (fun k => k) v = v := by
  cases v with
  | agg cs => simp only [renA]; rw [Array.map_congr_left (fun x _ => renF_id x)]; simp
  | _ => unfold renA; exact renF_id _
theorem ren_id (v : Value) : ren (fun k => k) v = v := by
  cases v with
  | tuple cs => simp only [ren]; rw [Array.map_congr_left (fun x _ => renA_id x)]; simp
  | _ => unfold ren; exact renA_id _
theorem Blk.rn_id (b : Blk) : b.rn (fun k => k) = b := by
  obtain ⟨c, T⟩ := b
  cases T with
  | ty t => simp only [Blk.rn]; rw [Array.map_congr_left (fun x _ => renF_id x)]; simp
  | raw t fr => rfl
  | mp => simp only [Blk.rn]; rw [Array.map_congr_left (fun x _ => renF_id x)]; simp
theorem tsL_app {l l2 : List (Nat × Value)} {u : Nat} : tsL (l ++ l2) u = tsL l u ∨ (u, tsL (l ++ l2) u) ∈ l2 := by
  induction l with
  | nil =>
    rcases tsL_mem (l := l2) (t := u) with h | h
    · exact .inl h
    · exact .inr h
  | cons p l ih =>
    obtain ⟨k, v⟩ := p
    rw [List.cons_append, tsL_cons, tsL_cons]
    by_cases h : u = k
    · left; rw [if_pos h, if_pos h]
    · rw [if_neg h, if_neg h]; exact ih
theorem GW_rangeKL {t : Tmp} {ps : Array Tmp} {assign body : Code} {f : FuncId} {caps : Array Value} {rs : List Nat} {xs : List (Array Value)} {m0 : List (Nat × Blk)} (asd : List Nat) (hGF : GFlat G) (hG : C.G = G) (h0 : C.hp0 = hpL G m0) (hY : C.Y = none) (hg : s.ts t = .func (.func f) #[] caps) (hit : IterK P G f caps s.hp rs xs)
    (hxs : ∀ x ∈ xs, x.size = ps.size ∧ ∀ v ∈ x, flatV v = true) (hps : ∀ p ∈ ps, p < n) (l l2 : List (Nat × Value)) (m : Nat → List (Nat × Blk)) (B : Nat) (N : Nat) (hN : N ≤ xs.length) (hB : 100 ≤ B)
    (hras : ∀ k ∈ rs, k ∈ asd) (has : ∀ k ∈ asd, 100 ≤ k ∧ dom s.hp k ∧ k < B) (hcl : ∀ k ∈ asd, ∀ b, s.hp k = some b → b.ids fun q => q ∈ asd)
    (hl : ∀ p ∈ l, s.ts p.1 = p.2) (hl2 : ∀ p ∈ l2, s.ts p.1 = p.2 ∧ idsV (fun q => q ∈ asd) p.2)
    (hm0 : ∀ p ∈ m 0, s.hp p.1 = some p.2) (hm : ∀ i, i ≤ N → (∀ p ∈ l, idsV (dom (hpL G (m i))) p.2) ∧ ∀ p ∈ m i, 100 ≤ p.1 ∧ p.1 < B ∧ p.1 ∉ asd ∧ p.2.ids (dom (hpL G (m i))))
    (hk : ∀ p ∈ m0, p.1 ∈ asd ∨ (100 ≤ p.1 ∧ hpL G (m 0) p.1 = s.hp p.1 ∧ ∀ i, i ≤ N → dom (hpL G (m i)) p.1))
    (rounds : ∀ i x, i < N → xs[i]? = some x → ∀ (C1 : Ctx) (j : Nat), C1.G = G → C1.hp0 = hpL G (m i) → C1.Y = none → GW P C1 n [] (some j) assign ⟨roundTs ps.toList x.toList (tsL l), hpL G (m i), B, 0⟩
      (thenG (fun s1 => ∀ C2 : Ctx, C2.G = G → C2.hp0 = hpL G (m i) → C2.Y = none → GW P C2 n [] (some j) body s1 (thenG (fun s2 => ∀ p ∈ m (i + 1), s2.hp p.1 = some p.2) (fun _ _ => False))) (fun _ _ => False)))
    (fin : (N = xs.length ∧ K .normal ⟨tsL (l ++ l2), addB asd s.hp (hpL G (m N)), B, s.yc⟩) ∨ ∃ x, xs[N]? = some x ∧ ∀ (C1 : Ctx) (j : Nat), C1.G = G → C1.hp0 = hpL G (m N) → C1.Y = none → GW P C1 n [] (some j) assign ⟨roundTs ps.toList x.toList (tsL l), hpL G (m N), B, 0⟩
        (thenG (fun s1 => ∀ C2 : Ctx, C2.G = G → C2.hp0 = hpL G (m N) → C2.Y = none → GW P C2 n [] (some j) body s1 (fun e s2 => (outCode e).isSome = true ∧ (∀ p ∈ l, idsV (dom s2.hp) p.2) ∧ (∀ k ∈ asd, s2.hp k = none ∧ k < s2.B) ∧ K e ⟨tsL (l ++ l2), addB asd s.hp s2.hp, s2.B, s.yc⟩)) (fun _ _ => False))) :
    GW P C n d none (.rangeFunc (.tmp t) ps assign body) s K := by
  have asn : ∀ i, i ≤ N → ∀ k ∈ asd, hpL G (m i) k = none := fun i hi k hk1 => by
    cases hb : hpL G (m i) k with
    | none => rfl
    | some b =>
      rcases hpL_mem hb with h | h
      · exact absurd hk1 ((hm i hi).2 _ h).2.2.1
      · have := (hGF k b h).1; have := (has k hk1).1; omega
  have keepW : ∀ i, i ≤ N → ∀ C0 : Ctx, C0.G = C.G → (C0.hp0 = fun k => if k ∈ asd then none else C.hp0 k) → ∀ s2 : GS, s2.yc = s.yc → (∀ p ∈ m i, s2.hp p.1 = some p.2) → s2.ts = tsL l → WeakR C0 (fun k => k) s2 ⟨tsL l, hpL G (m i), B, s.yc⟩ := fun i hi C0 c1 c2 s2 hyc hs ht => by
    refine ⟨fun u => ?_, fun k b hb h1 => ⟨?_, h1⟩, fun k b hb => ?_, fun k q _ _ e => e, fun _ _ => rfl, fun k b _ _ => Blk.rn_id b, fun k h1 hd => ⟨?_, rfl⟩, fun k h1 => ?_, hyc.symm, fun x hx => ?_, hB⟩
    · rcases tsL_mem (l := l) (t := u) with h | h
      · exact .inl h
      · by_cases hj : tsL l u = junk
        · exact .inl hj
        · exact .inr ⟨by rw [ht, ren_id], by rw [ht]; exact hj, (hm i hi).1 _ h⟩
    · rw [Blk.rn_id]
      rcases hpL_mem hb with h | h
      · exact hs _ h
      · have := (hGF k b h).1; omega
    · rcases hpL_mem hb with h | h
      · exact ((hm i hi).2 _ h).2.2.2
      · exact Blk.flat_ids (hGF k b h).2
    · have hna : k ∉ asd := fun hm1 => by
        have h2 : C0.hp0 k ≠ none := hd
        rw [c2] at h2; exact h2 (if_pos hm1)
      have h2 : C0.hp0 k ≠ none := hd
      rw [c2] at h2
      simp only [if_neg hna] at h2
      rw [h0] at h2
      cases hb : hpL G m0 k with
      | none => exact absurd hb h2
      | some b =>
        rcases hpL_mem hb with h | h
        · rcases hk _ h with h3 | h3
          · exact absurd h3 hna
          · exact h3.2.2 i hi
        · have := (hGF k b h).1; omega
    · rw [c1, hG]; exact hpL_low (fun p hp => ((hm i hi).2 p hp).1) h1
    · dsimp only at hx ⊢
      cases hb : hpL G (m i) x with
      | none => rfl
      | some b =>
        rcases hpL_mem hb with h | h
        · have := ((hm i hi).2 _ h).2.1; simp at this; omega
        · have := (hGF x b h).1; omega
  refine GW_rangeK (rs := rs) (xs := xs) asd hY hg (hG.symm ▸ hit) hxs hps (tsL l) (tsL (l ++ l2)) (fun i h => h = hpL G (m i)) (hpS := hpL G (m 0)) B N hN hras (fun k hk1 => ⟨(has k hk1).1, (has k hk1).2.1⟩) hcl (fun C0 c1 c2 => ?_) rfl (asn 0 (Nat.zero_le _)) (fun u => ?_) (fun i x hq hi hx hI C1 j c1 c2 c3 => ?_) ?_
  · refine ⟨fun u => ?_, fun k h1 => ?_, (keepW 0 (Nat.zero_le _) C0 c1 c2 ⟨tsL l, s.hp, s.B, s.yc⟩ rfl hm0 rfl).ids, fun k h1 hd => ?_, (keepW 0 (Nat.zero_le _) C0 c1 c2 ⟨tsL l, s.hp, s.B, s.yc⟩ rfl hm0 rfl).glob, rfl, (keepW 0 (Nat.zero_le _) C0 c1 c2 ⟨tsL l, s.hp, s.B, s.yc⟩ rfl hm0 rfl).free, hB⟩
    · rcases tsL_mem (l := l) (t := u) with h | h
      · exact .inl h
      · exact .inr ⟨(hl _ h).symm, (hm 0 (Nat.zero_le _)).1 _ h⟩
    · dsimp only
      cases hb : hpL G (m 0) k with
      | none => exact .inl rfl
      | some b =>
        rcases hpL_mem hb with h | h
        · exact .inr (hm0 _ h).symm
        · have := (hGF k b h).1; omega
    · have h2 : C0.hp0 k ≠ none := hd
      rw [c2] at h2
      have hna : k ∉ asd := fun hm1 => h2 (if_pos hm1)
      simp only [if_neg hna] at h2
      rw [h0] at h2
      cases hb : hpL G m0 k with
      | none => exact absurd hb h2
      | some b =>
        rcases hpL_mem hb with h | h
        · rcases hk _ h with h3 | h3
          · exact absurd h3 hna
          · exact h3.2.1
        · have := (hGF k b h).1; omega
  · rcases tsL_app (l := l) (l2 := l2) (u := u) with h | h
    · exact .inl h
    · exact .inr ⟨(hl2 _ h).1.symm, by rw [(hl2 _ h).1]; exact (hl2 _ h).2⟩
  · subst hI
    refine GW_mono (rounds i x hi hx C1 j (c1.trans hG) c2 c3) fun e s1 hs => ?_
    cases e with
    | normal =>
      intro C2 q1 q2 q3
      refine GW_mono (hs C2 (q1.trans hG) q2 q3) fun e s2 hs2 => ?_
      cases e with
      | normal => exact ⟨fun k => k, _, fun C0 z1 z2 => keepW (i + 1) hi C0 z1 z2 _ rfl hs2 rfl, rfl⟩
      | _ => exact hs2.elim
    | _ => exact hs.elim
  · rcases fin with ⟨f1, f2⟩ | ⟨x, f1, f2⟩
    · exact .inl ⟨f1, fun hq hI => by subst hI; exact ⟨fun k hk1 => ⟨asn N (Nat.le_refl _) k hk1, (has k hk1).2.2⟩, f2⟩⟩
    · refine .inr ⟨x, f1, fun hq hI C1 j c1 c2 c3 => ?_⟩
      subst hI
      refine GW_mono (f2 C1 j (c1.trans hG) c2 c3) fun e s1 hs => ?_
      cases e with
      | normal =>
        intro C2 q1 q2 q3
        refine GW_mono (hs C2 (q1.trans hG) q2 q3) fun e s2 hs2 => ⟨hs2.1, fun u => ?_, hs2.2.2.1, hs2.2.2.2⟩
        rcases tsL_mem (l := l) (t := u) with h | h
        · rw [h]; simp [junk, idsV, idsA, idsF, ids0]
        · exact hs2.2.1 _ h
      | _ => exact hs.elim
end
end Go.Gy
namespace Go.Gy
set_option linter.unusedSimpArgs false
set_option linter.unusedVariables false
open Go Go.RowKit
@[simp] theorem rg1 : Array.range 1 = #[0] := rfl
@[simp] theorem rg2 : Array.range 2 = #[0, 1] := rfl
@[simp] theorem rg3 : Array.range 3 = #[0, 1, 2] := rfl
@[simp] theorem rg4 : Array.range 4 = #[0, 1, 2, 3] := rfl
@[simp] theorem rg5 : Array.range 5 = #[0, 1, 2, 3, 4] := rfl
@[simp] theorem rg6 : Array.range 6 = #[0, 1, 2, 3, 4, 5] := rfl
@[simp] theorem rg20 : Array.range 20 = #[0, 1, 2, 3, 4, 5, 6, 7, 8, 9, 10, 11, 12, 13, 14, 15, 16, 17, 18, 19] := rfl
@[simp] theorem rg36 : Array.range 36 = #[0, 1, 2, 3, 4, 5, 6, 7, 8, 9, 10, 11, 12, 13, 14, 15, 16, 17, 18, 19, 20, 21, 22, 23, 24, 25, 26, 27, 28, 29, 30, 31, 32, 33, 34, 35] := rfl
section
variable {P : Program} {G : Hp} {V : XV} {yc nk : Nat} {ts : Nat → Value} {hp : Hp} {C : Eff → Prop} {dst : Option Tmp} {type : TypeId} {pos : String} {after : Array Edge} {guard : Option (Nat × Bool)}
def bsZ (e len m nk : Nat) (ps : List (Nat × Value)) (z : Option Value) (C : Eff → Prop) : Prop :=
  match z with
  | some z => okCells z = true ∧ flatV z = true ∧ 0 < len * m ∧ len * m ≤ 16777216 ∧ bsX (fillG (.inr m) ((Array.range (len * m)).map (z.cells[· % z.cells.size]!)) ps) e len nk C
  | none => False
@[simp] theorem bsZ_some (e len m nk : Nat) (ps : List (Nat × Value)) (z : Value) (C : Eff → Prop) : bsZ e len m nk ps (some z) C = (okCells z = true ∧ flatV z = true ∧ 0 < len * m ∧ len * m ≤ 16777216 ∧ bsX (fillG (.inr m) ((Array.range (len * m)).map (z.cells[· % z.cells.size]!)) ps) e len nk C) := rfl
def bsM (P : Program) (e len nk : Nat) (ps : List (Nat × Value)) (m : Option Nat) (C : Eff → Prop) : Prop :=
  match m with
  | some m => bsZ e len m nk ps (tyZero P e) C
  | none => False
@[simp] theorem bsM_some (P : Program) (e len m nk : Nat) (ps : List (Nat × Value)) (C : Eff → Prop) : bsM P e len nk ps (some m) C = bsZ e len m nk ps (tyZero P e) C := rfl
def bsU (P : Program) (len nk : Nat) (ps : List (Nat × Value)) (u : Option TypeDesc) (C : Eff → Prop) : Prop :=
  match u with
  | some (.slice e) => bsM P e len nk ps (tySize P e) C
  | _ => False
@[simp] theorem bsU_some (P : Program) (e len nk : Nat) (ps : List (Nat × Value)) (C : Eff → Prop) : bsU P len nk ps (some (.slice e)) C = bsM P e len nk ps (tySize P e) C := rfl
@[simp ↓] theorem opX_buildSlice (T : TypeId) (len : Nat) (parts : Array (Nat × Operand)) : opX P G V yc ⟨dst, .buildSlice T len parts, type, pos, after, guard⟩ ts hp nk C =
    ((∀ p ∈ parts.toList, okX ts hp p.2 ∧ okCells (gev ts p.2) = true) ∧ bsU P len nk (partsG ts parts) (P.underlying T) C) := by
  unfold opX bsU
  simp only
  cases hu : P.underlying T with
  | none => rfl
  | some u =>
    cases u with
    | slice e =>
      simp only [bsM]
      cases hm : tySize P e with
      | none => rfl
      | some m =>
        simp only [bsZ]
        cases hz : tyZero P e with
        | none => rfl
        | some z =>
          simp only
          cases hf : fillG (.inr m) ((Array.range (len * m)).map (z.cells[· % z.cells.size]!)) (partsG ts parts) <;> rfl
    | _ => rfl
end
end Go.Gy
namespace Go.Gy
set_option linter.unusedSimpArgs false
set_option linter.unusedVariables false
open Go Go.RowKit Go.Proofs
def vf (x0 x1 x2 : Int) : Nat → Int
  | 0 => x0
  | 1 => x1
  | _ => x2
def vf2 (x0 x1 x2 y0 y1 y2 : Int) : Nat → Int
  | 0 => x0
  | 1 => x1
  | 2 => x2
  | 3 => y0
  | 4 => y1
  | _ => y2
def xsV (N : Nat) (f : Nat → Int) : List (Array Value) := (List.range N).map fun j => #[.int .i64 ((j % 3 : Nat) : Int), .int .i64 (f j)]
theorem xsV_at (N : Nat) (f : Nat → Int) (i : Nat) (h : i < N) : (xsV N f)[i]? = some #[.int .i64 ((i % 3 : Nat) : Int), .int .i64 (f i)] := by simp [xsV, h]
theorem vparts_new (b k m c : Nat) (cs : Array Value) (hcs : ∀ x ∈ cs, flatF x = true) (hb : 100 ≤ b) (hb2 : b < 100000) (hk : 100 ≤ k) (hbk : b ≠ k) : Fun Tryz.prog G0 68 #[.slice (some ⟨b, 0, none⟩) m c] (hpL G0 [(b, ⟨cs, .ty 51⟩)]) [b] (.new (.func (.func 90) #[] #[.pointer (some ⟨k, 0, none⟩)]) [(k, ⟨#[.slice (some ⟨b, 0, none⟩) m c], .ty 108⟩)]) := by
  have e0 : rst (hpL G0 [(b, ⟨cs, .ty 51⟩)]) [b] = hpL G0 [(b, ⟨cs, .ty 51⟩)] := hpL_rst G0F (by simp)
  have hdom : ∀ j, dom (hpL G0 [(b, ⟨cs, .ty 51⟩)]) j → j = b ∨ j < 100 := fun j hj => by
    unfold dom at hj
    cases hq : hpL G0 [(b, ⟨cs, .ty 51⟩)] j with
    | none => exact absurd hq hj
    | some q =>
      rcases hpL_mem hq with h | h
      · simp at h; exact .inl h.1
      · exact .inr (G0F j q h).1
  have hdb : dom (hpL G0 [(b, ⟨cs, .ty 51⟩)]) b := by unfold dom; simp
  refine new_of (B := 100000) (fun j => if j = k then 100000 else j) G0F (fun j hj => hpL_low (by simp; omega) hj) Tryz.func68 rfl Tryz.call68 ?_ ?_ ?_ (by simp [Tryz.ntmps68]) (by omega) ?_ (fun j hj => ?_) ?_ ?_ ?_ ?_
  · rw [e0]; simp [idsV, idsA, idsF, ids0]; exact hdb
  · rw [e0]
    intro j q hq
    rcases hpL_mem hq with h | h
    · simp at h; rw [h.2]; exact Blk.flat_ids hcs
    · exact G0_closed _ _ _ h
  · refine ⟨by simp [idsV, idsA, idsF, ids0, extD, keys], by simp [keys]; omega, fun q b c h1 h2 => ?_⟩
    simp at h1 h2
    rw [h1.2, h2.2]
  · rw [e0]
    intro x hx
    simp [show ¬ x = b by omega, show 100 ≤ x by omega]
  · rw [e0] at hj
    rcases hdom j hj with h | h
    · rw [if_neg (by omega)]
    · rw [if_neg (by omega)]
  · rw [e0]
    intro p hp
    simp at hp
    subst hp
    refine ⟨fun h => ?_, by simp⟩
    rcases hdom _ h with h | h <;> simp at h <;> omega
  · simp
  · rw [e0]; simp [idsF, ids0]; exact hdb
  · intro C hC hC0 hY
    rw [e0]
    have hbB : ¬ b = 100000 := by omega
    have hBb : ¬ 100000 = b := by omega
    repeat' (first | apply gwS | simp only [wN, wM, Nat.reduceAdd, Nat.reduceMul] | ((first | refine gwR [] ?_ | refine gwD [] ?_); intro Q hQ hP; simp [hC, hY, hbB, hBb, hbk]; (first | refine hQ _ _ _ _ (by kernel_rfl) ?_ | refine hP _ _ (by kernel_rfl) fun _ => ?_); clear hQ hP Q) | apply gwB | apply gwT | apply gwK | apply gwE | apply gwG | apply gwL | simp only [blockG_exit] | (refine gwC ?_ ?_ <;> (intro hb; first | (cases hb; done) | skip)))
    refine ⟨.inr trivial, ?_⟩
    simp [Tryz.results68, ren, renA, renF, ren0]
    intro j hj
    rcases hdom j hj with h | h
    · have : ¬ j = 100000 := by omega
      simp [this]
    · have : ¬ j = 100000 := by omega
      simp [this]
def pvL1 (x0 x1 x2 : Int) : List (Nat × Blk) := [(100, ⟨#[.slice (some ⟨108, 0, none⟩) 1 1], .ty 108⟩), (108, ⟨#[.int .i64 x0, .int .i64 x1, .int .i64 x2], .ty 51⟩)]
abbrev pv1 (x0 x1 x2 : Int) : Hp := hpL G0 (pvL1 x0 x1 x2)
theorem vparts1_itk (x0 x1 x2 : Int) : IterK Tryz.prog G0 90 #[.pointer (some ⟨100, 0, none⟩)] (pv1 x0 x1 x2) [100, 108] (xsV 3 (vf x0 x1 x2)) := by
  have hL : LOk (pvL1 x0 x1 x2) 200 := ⟨by simp [pvL1], by simp [pvL1, keys], by simp [pvL1, ids_lit, idsF, ids0, keys]⟩
  have hlt : ∀ k, dom (hpL G0 (pvL1 x0 x1 x2)) k → k < 200 := fun k hk => Classical.byContradiction fun h1 => hk (hL.free G0F (by omega) k (by omega))
  refine iterk_ofL (m := pvL1 x0 x1 x2) (B := 200) (v := .tuple #[]) G0F Tryz.func90 rfl Tryz.call90 hL ?_ (by simp [Tryz.ntmps90]) (by omega) ?_
  · simp [idsV, idsA, idsF, ids0, pvL1, keys]
  · intro C l stop hC hC0 hY
    have exs : xsV 3 (vf x0 x1 x2) = [#[.int .i64 0, .int .i64 x0], #[.int .i64 1, .int .i64 x1], #[.int .i64 2, .int .i64 x2]] := rfl
    rw [exs] at hY ⊢
    by_cases h3 : 3 ≤ stop
    · have q0 : (0 != stop) = true := by simp; omega
      have q1 : (1 != stop) = true := by simp; omega
      have q2 : (2 != stop) = true := by simp; omega
      have l1 : 1 ≤ stop := by omega
      have l2 : 2 ≤ stop := by omega
      repeat' (first | apply gwS | refine GWL_start ?_ | refine GWL_step ?_ | simp only [wN, wM, Nat.reduceAdd, Nat.reduceMul] | ((first | refine gwR [] ?_ | refine gwD [] ?_); intro Q hQ hP; simp [hC, hY, pvL1, q0, q1, q2, l1, l2, h3]; (first | refine hQ _ _ _ _ (by kernel_rfl) ?_ | refine hP _ _ (by kernel_rfl) fun _ => ?_); clear hQ hP Q) | apply gwB | apply gwT | apply gwK | apply gwE | apply gwG | apply gwL | simp only [blockG_exit] | (refine gwC ?_ ?_ <;> (intro hb; first | (cases hb; done) | skip)))
      refine ⟨by simp, by simp [Tryz.results90], by first | (simp; omega) | omega, fun k hk => ?_⟩
      have hk := hlt k hk
      simp (disch := omega) only [upd_other]
      rfl
    · have : stop = 0 ∨ stop = 1 ∨ stop = 2 := by omega
      rcases this with rfl | rfl | rfl
      all_goals
        repeat' (first | apply gwS | refine GWL_start ?_ | refine GWL_step ?_ | simp only [wN, wM, Nat.reduceAdd, Nat.reduceMul] | ((first | refine gwR [] ?_ | refine gwD [] ?_); intro Q hQ hP; simp [hC, hY, pvL1]; (first | refine hQ _ _ _ _ (by kernel_rfl) ?_ | refine hP _ _ (by kernel_rfl) fun _ => ?_); clear hQ hP Q) | apply gwB | apply gwT | apply gwK | apply gwE | apply gwG | apply gwL | simp only [blockG_exit] | (refine gwC ?_ ?_ <;> (intro hb; first | (cases hb; done) | skip)))
      all_goals
        refine ⟨by simp, by simp [Tryz.results90], by simp, fun k hk => ?_⟩
        have hk := hlt k hk
        simp (disch := omega) only [upd_other]
        rfl
theorem vparts1_it (x0 x1 x2 : Int) : IterG Tryz.prog G0 90 #[.pointer (some ⟨100, 0, none⟩)] (pv1 x0 x1 x2) [100, 108] (xsV 3 (vf x0 x1 x2)) := (vparts1_itk x0 x1 x2).g
def pvL2 (x0 x1 x2 y0 y1 y2 : Int) : List (Nat × Blk) := [(100, ⟨#[.slice (some ⟨108, 0, none⟩) 2 2], .ty 108⟩), (108, ⟨#[.int .i64 x0, .int .i64 x1, .int .i64 x2, .int .i64 y0, .int .i64 y1, .int .i64 y2], .ty 51⟩)]
abbrev pv2 (x0 x1 x2 y0 y1 y2 : Int) : Hp := hpL G0 (pvL2 x0 x1 x2 y0 y1 y2)
set_option maxRecDepth 20000 in
set_option maxHeartbeats 4000000 in
theorem vparts2_itk (x0 x1 x2 y0 y1 y2 : Int) : IterK Tryz.prog G0 90 #[.pointer (some ⟨100, 0, none⟩)] (pv2 x0 x1 x2 y0 y1 y2) [100, 108] (xsV 6 (vf2 x0 x1 x2 y0 y1 y2)) := by
  have hL : LOk (pvL2 x0 x1 x2 y0 y1 y2) 200 := ⟨by simp [pvL2], by simp [pvL2, keys], by simp [pvL2, ids_lit, idsF, ids0, keys]⟩
  have hlt : ∀ k, dom (hpL G0 (pvL2 x0 x1 x2 y0 y1 y2)) k → k < 200 := fun k hk => Classical.byContradiction fun h1 => hk (hL.free G0F (by omega) k (by omega))
  refine iterk_ofL (m := pvL2 x0 x1 x2 y0 y1 y2) (B := 200) (v := .tuple #[]) G0F Tryz.func90 rfl Tryz.call90 hL ?_ (by simp [Tryz.ntmps90]) (by omega) ?_
  · simp [idsV, idsA, idsF, ids0, pvL2, keys]
  · intro C l stop hC hC0 hY
    have exs : xsV 6 (vf2 x0 x1 x2 y0 y1 y2) = [#[.int .i64 0, .int .i64 x0], #[.int .i64 1, .int .i64 x1], #[.int .i64 2, .int .i64 x2], #[.int .i64 0, .int .i64 y0], #[.int .i64 1, .int .i64 y1], #[.int .i64 2, .int .i64 y2]] := rfl
    rw [exs] at hY ⊢
    by_cases h6 : 6 ≤ stop
    · have q0 : (0 != stop) = true := by simp; omega
      have q1 : (1 != stop) = true := by simp; omega
      have q2 : (2 != stop) = true := by simp; omega
      have q3 : (3 != stop) = true := by simp; omega
      have q4 : (4 != stop) = true := by simp; omega
      have q5 : (5 != stop) = true := by simp; omega
      have l1 : 1 ≤ stop := by omega
      have l2 : 2 ≤ stop := by omega
      have l3 : 3 ≤ stop := by omega
      have l4 : 4 ≤ stop := by omega
      have l5 : 5 ≤ stop := by omega
      repeat' (first | apply gwS | refine GWL_start ?_ | refine GWL_step ?_ | simp only [wN, wM, Nat.reduceAdd, Nat.reduceMul] | ((first | refine gwR [] ?_ | refine gwD [] ?_); intro Q hQ hP; simp [hC, hY, pvL2, q0, q1, q2, q3, q4, q5, l1, l2, l3, l4, l5, h6]; (first | refine hQ _ _ _ _ (by kernel_rfl) ?_ | refine hP _ _ (by kernel_rfl) fun _ => ?_); clear hQ hP Q) | apply gwB | apply gwT | apply gwK | apply gwE | apply gwG | apply gwL | simp only [blockG_exit] | (refine gwC ?_ ?_ <;> (intro hb; first | (cases hb; done) | skip)))
      refine ⟨by simp, by simp [Tryz.results90], by first | (simp; omega) | omega, fun k hk => ?_⟩
      have hk := hlt k hk
      simp (disch := omega) only [upd_other]
      rfl
    · have : stop = 0 ∨ stop = 1 ∨ stop = 2 ∨ stop = 3 ∨ stop = 4 ∨ stop = 5 := by omega
      rcases this with rfl | rfl | rfl | rfl | rfl | rfl
      all_goals
        repeat' (first | apply gwS | refine GWL_start ?_ | refine GWL_step ?_ | simp only [wN, wM, Nat.reduceAdd, Nat.reduceMul] | ((first | refine gwR [] ?_ | refine gwD [] ?_); intro Q hQ hP; simp [hC, hY, pvL2]; (first | refine hQ _ _ _ _ (by kernel_rfl) ?_ | refine hP _ _ (by kernel_rfl) fun _ => ?_); clear hQ hP Q) | apply gwB | apply gwT | apply gwK | apply gwE | apply gwG | apply gwL | simp only [blockG_exit] | (refine gwC ?_ ?_ <;> (intro hb; first | (cases hb; done) | skip)))
      all_goals
        refine ⟨by simp, by simp [Tryz.results90], by simp, fun k hk => ?_⟩
        have hk := hlt k hk
        simp (disch := omega) only [upd_other]
        rfl

theorem bm {x : Int} (h0 : -9223372036854775808 ≤ x) (h1 : x < 9223372036854775808) : Int.bmod x 18446744073709551616 = x := by
  rw [Int.bmod_def]; split <;> omega
def um (z : Int) : Int := if sz z < 0 then -sz z else sz z
theorem sz_bd (z : Int) : -57896044618658097711785492504343953926634992332820282019728792003956564819968 ≤ sz z ∧ sz z < 57896044618658097711785492504343953926634992332820282019728792003956564819968 := by
  unfold sz; rw [Int.bmod_def]; constructor <;> split <;> omega
theorem um_bd (z : Int) : 0 ≤ um z ∧ um z ≤ 57896044618658097711785492504343953926634992332820282019728792003956564819968 := by
  have := sz_bd z; unfold um; split <;> omega
theorem sz_mod (z : Int) : sz z % 115792089237316195423570985008687907853269984665640564039457584007913129639936 = z % 115792089237316195423570985008687907853269984665640564039457584007913129639936 := by
  unfold sz; rw [Int.bmod_def]; split <;> omega
def mulO (a b : Int) : Bool := decide (¬ (-57896044618658097711785492504343953926634992332820282019728792003956564819968 ≤ sz a * sz b ∧ sz a * sz b < 57896044618658097711785492504343953926634992332820282019728792003956564819968))
theorem words_zero (D : Int) (h : sz D = 0) : wi D 0 = 0 ∧ wi D 1 = 0 ∧ wi D 2 = 0 ∧ wi D 3 = 0 := by
  have h1 := sz_mod D
  rw [h] at h1
  simp only [wi]
  refine ⟨?_, ?_, ?_, ?_⟩ <;> omega
theorem words_z (D : Int) (h : sz D = 0) : (!wi D 0 == 0 || (!wi D 1 == 0 || (!wi D 2 == 0 || !wi D 3 == 0))) = false := by
  obtain ⟨w0, w1, w2, w3⟩ := words_zero D h
  simp [w0, w1, w2, w3]
theorem words_ne (D : Int) (h : ¬ sz D = 0) : (!wi D 0 == 0 || (!wi D 1 == 0 || (!wi D 2 == 0 || !wi D 3 == 0))) = true := by
  have := wne D 0
  simp at this
  rw [this]
  have e : sz 0 = 0 := by decide
  simp [e, h]
theorem prod_same (a b : Int) (h : (ng a == ng b) = true) : sz a * sz b = um a * um b := by
  rw [ng_sz, ng_sz] at h
  simp at h
  unfold um
  by_cases h1 : sz a < 0
  · rw [if_pos h1, if_pos (h.1 h1), Int.neg_mul_neg]
  · rw [if_neg h1, if_neg (fun h2 => h1 (h.2 h2))]
theorem prod_other (a b : Int) (h : (ng a == ng b) = false) : sz a * sz b = -(um a * um b) := by
  rw [ng_sz, ng_sz] at h
  simp at h
  unfold um
  by_cases h1 : sz a < 0
  · rw [if_pos h1, if_neg (fun h2 => h ⟨fun _ => h2, fun _ => h1⟩), Int.neg_mul, Int.neg_neg]
  · have h2 : sz b < 0 := Classical.byContradiction fun h2 => h ⟨fun h3 => absurd h3 h1, fun h3 => absurd h3 h2⟩
    rw [if_neg h1, if_pos h2, Int.mul_neg, Int.neg_neg]
theorem sz_small (D : Int) (h0 : 0 ≤ D) (h1 : ¬ 115792089237316195423570985008687907853269984665640564039457584007913129639936 ≤ D) : sz D = if 57896044618658097711785492504343953926634992332820282019728792003956564819968 ≤ D then D - 115792089237316195423570985008687907853269984665640564039457584007913129639936 else D := by
  unfold sz; rw [Int.bmod_def]; split <;> split <;> omega
theorem sz_negl (D : Int) (h0 : 0 ≤ D) (h1 : ¬ 115792089237316195423570985008687907853269984665640564039457584007913129639936 ≤ D) : sz (-D) = if 57896044618658097711785492504343953926634992332820282019728792003956564819968 < D then 115792089237316195423570985008687907853269984665640564039457584007913129639936 - D else -D := by
  unfold sz; rw [Int.bmod_def]; split <;> split <;> omega

theorem wlow_ret (z : Int) : Ret Tryz.prog G0 53 #[wd z] (.bool (ng z)) := by
  refine ret_of G0F Tryz.func53 rfl Tryz.call53 rfl (by simp) (by simp [Tryz.ntmps53]) ?_
  intro C hC _ hY
  repeat' (first | apply gwS | simp only [wN, wM, Nat.reduceAdd, Nat.reduceMul] | ((first | refine gwR [] ?_ | refine gwD [] ?_); intro Q hQ hP; simp [hC, hY]; (first | refine hQ _ _ _ _ (by kernel_rfl) ?_ | refine hP _ _ (by kernel_rfl) fun _ => ?_); clear hQ hP Q) | apply gwB | apply gwT | apply gwK | apply gwE | apply gwG | apply gwL | simp only [blockG_exit] | (refine gwC ?_ ?_ <;> (intro hb; first | (cases hb; done) | skip)))
  refine ⟨.inr trivial, ?_⟩
  have := wi_ge z 3
  have := wi_lt z 3
  simp [Tryz.results53, ng]
  rw [Int.bmod_def]
  split <;> omega
@[simp] theorem wlow (z : Int) (K : Value → Prop) : callK Tryz.prog G0 53 #[Value.agg #[.int .u64 (wi (z) 0), .int .u64 (wi (z) 1), .int .u64 (wi (z) 2), .int .u64 (wi (z) 3)]] K ↔ K (.bool (ng z)) := callK_iff G0W (by kernel_rfl) (wlow_ret z)

theorem add64_ret (x y c : Int) (hx : 0 ≤ x) (hy : 0 ≤ y) (h0 : 0 ≤ c) (h1 : c ≤ 1) : RetV Tryz.prog 56 #[.int .u64 x, .int .u64 y, .int .u64 c] (.tuple #[.int .u64 ((x + y + c) % 18446744073709551616), .int .u64 ((x + y + c) / 18446744073709551616)]) := by
  refine ⟨by simp, by simp, fun w => ?_⟩
  rw [run_callFunc_extern Tryz.func56 (by kernel_rfl) (by kernel_rfl) (by kernel_rfl) (e := add64Entry) (by kernel_rfl), run_add64 x y c hx hy h0 h1]
  simp only [Result.andThen]
@[simp] theorem add64 (x y c : Int) (hx : 0 ≤ x) (hy : 0 ≤ y) (h0 : 0 ≤ c) (h1 : c ≤ 1) (K : Value → Prop) : callK Tryz.prog G0 56 #[.int .u64 x, .int .u64 y, .int .u64 c] K ↔ K (.tuple #[.int .u64 ((x + y + c) % 18446744073709551616), .int .u64 ((x + y + c) / 18446744073709551616)]) := callK_iffV (add64_ret x y c hx hy h0 h1)

def wb (z : Int) : Blk := ⟨#[.int .u64 (wi z 0), .int .u64 (wi z 1), .int .u64 (wi z 2), .int .u64 (wi z 3)], .ty 30⟩
theorem words_new (a b : Int) (k : Nat) (h100 : 100 ≤ k) : Fun Tryz.prog G0 92 #[wd a, wd b] G0 [] (.new (.func (.func 111) #[] #[.pointer (some ⟨k, 0, none⟩), .pointer (some ⟨k + 1, 0, none⟩)]) [(k, wb a), (k + 1, wb b)]) := by
  have e0 : rst G0 [] = G0 := rst_G G0F []
  refine new_of (B := 200) (fun j => if j = k then 200 else if j = k + 1 then 208 else j) G0F (fun _ _ => rfl) Tryz.func92 rfl Tryz.call92 (by simp [idsV, idsA, idsF, ids0]) (by rw [e0]; exact G0_closed _) ?_ (by simp [Tryz.ntmps92]) (by omega) (by rw [e0]; exact fun x hx => G0_big x (by omega)) (fun j hj => ?_) ?_ ?_ ?_ ?_
  · refine ⟨by simp [idsV, idsA, idsF, ids0, extD, keys], by simp [keys]; omega, fun q b c h1 h2 => ?_⟩
    simp at h1 h2
    rcases h1 with ⟨e1, rfl⟩ | ⟨e1, rfl⟩ <;> rcases h2 with ⟨e2, rfl⟩ | ⟨e2, rfl⟩ <;> first | rfl | omega
  · rw [e0] at hj; have := G0_dom hj; rw [if_neg (by omega), if_neg (by omega)]
  · simp [e0, dom]
  · simp
  · simp [wb, ids_lit, idsF, ids0]
  · intro C hC hC0 hY
    rw [e0]
    repeat' (first | apply gwS | simp only [wN, wM, Nat.reduceAdd, Nat.reduceMul] | ((first | refine gwR [] ?_ | refine gwD [] ?_); intro Q hQ hP; simp [hC, hY]; (first | refine hQ _ _ _ _ (by kernel_rfl) ?_ | refine hP _ _ (by kernel_rfl) fun _ => ?_); clear hQ hP Q) | apply gwB | apply gwT | apply gwK | apply gwE | apply gwG | apply gwL | simp only [blockG_exit] | (refine gwC ?_ ?_ <;> (intro hb; first | (cases hb; done) | skip)))
    refine ⟨.inr trivial, ?_⟩
    simp [Tryz.results92, ren, renA, renF, ren0, wb]
    intro j hj
    have := G0_dom hj
    rw [if_neg (by omega), if_neg (by omega)]
def wordsXs (a b : Int) : List (Array Value) := [#[.int .u64 (wi a 0), .int .u64 (wi b 0)], #[.int .u64 (wi a 1), .int .u64 (wi b 1)], #[.int .u64 (wi a 2), .int .u64 (wi b 2)], #[.int .u64 (wi a 3), .int .u64 (wi b 3)]]

def wHp (a b : Int) : Hp := hpL G0 [(100, wb a), (101, wb b)]
def wordsSt (a b : Int) (l i : Nat) : GS :=
  ⟨tsL [(0, .func (.yield l) #[] #[]), (1, .pointer (some ⟨100, 0, none⟩)), (2, .pointer (some ⟨101, 0, none⟩)), (5, .int .i64 i)], wHp a b, 300, i⟩
theorem words_it (a b : Int) : IterG Tryz.prog G0 111 #[.pointer (some ⟨100, 0, none⟩), .pointer (some ⟨101, 0, none⟩)] (wHp a b) [100, 101] (wordsXs a b) := by
  have e0 : rst (wHp a b) [100, 101] = wHp a b := hpL_rst G0F (by simp)
  refine iter_of (B := 200) (v := .tuple #[]) G0F (fun k hk => hpL_low (by simp) hk) Tryz.func111 rfl Tryz.call111 ?_ ?_ (by simp [Tryz.ntmps111]) (by omega) ?_ ?_
  · rw [e0]; simp [idsV, idsA, idsF, ids0, dom, wHp]
  · rw [e0]
    intro k c hk
    rcases hpL_mem hk with h | h
    · simp at h
      rcases h with ⟨_, rfl⟩ | ⟨_, rfl⟩ <;> simp [wb, ids_lit, idsF, ids0]
    · exact Blk.flat_ids ((G0F k c h).2)
  · rw [e0]
    intro x hx
    have h1 : ¬ x = 100 := by omega
    have h2 : ¬ x = 101 := by omega
    have h3 : 100 ≤ x := by omega
    simp [wHp, h1, h2, h3]
  · intro C l stop hC hC0 hY
    rw [e0] at hC0 ⊢
    repeat' (first | apply gwS | simp only [wN, wM, Nat.reduceAdd, Nat.reduceMul] | ((first | refine gwR [] ?_ | refine gwD [] ?_); intro Q hQ hP; simp [hC, hY, wHp, wb]; (first | refine hQ _ _ _ _ (by kernel_rfl) ?_ | refine hP _ _ (by kernel_rfl) fun _ => ?_); clear hQ hP Q) | apply gwB | apply gwT | apply gwK | apply gwE | apply gwG | apply gwL | simp only [blockG_exit] | (refine gwC ?_ ?_ <;> (intro hb; first | (cases hb; done) | skip)))
    refine GW_for (min stop 4) (wordsSt a b l) ?_ ?_ ?_
    · refine weakL _ 300 hC G0F (m0 := [(100, wb a), (101, wb b)]) hC0 (by omega) ?_ ?_ ?_
      · simp [idsV, idsA, idsF, ids0, dom]
      · simp [ids_lit, idsF, ids0, wb]
      · simp [wb]
    · intro i hi
      have hs : i < stop := by omega
      have hq : (i != stop) = true := by simp; omega
      have hle : i ≤ stop := by omega
      have : i = 0 ∨ i = 1 ∨ i = 2 ∨ i = 3 := by omega
      rcases this with rfl | rfl | rfl | rfl <;> unfold wordsSt wHp
      all_goals
        repeat' (first | apply gwS | simp only [wN, wM, Nat.reduceAdd, Nat.reduceMul] | ((first | refine gwR [] ?_ | refine gwD [] ?_); intro Q hQ hP; simp [hC, hY, wordsXs, hq, hle, wb]; (first | refine hQ _ _ _ _ (by kernel_rfl) ?_ | refine hP _ _ (by kernel_rfl) fun _ => ?_); clear hQ hP Q) | apply gwB | apply gwT | apply gwK | apply gwE | apply gwG | apply gwL | simp only [blockG_exit] | (refine gwC ?_ ?_ <;> (intro hb; first | (cases hb; done) | skip)))
      all_goals
        refine weakL _ 300 hC G0F (m0 := [(100, wb a), (101, wb b)]) hC0 (by omega) ?_ ?_ ?_
        · simp [idsV, idsA, idsF, ids0, dom]
        · simp [ids_lit, idsF, ids0, wb]
        · simp [wb]
    · by_cases h4 : 4 ≤ stop
      · rw [Nat.min_eq_right h4]
        unfold wordsSt wHp
        repeat' (first | apply gwS | simp only [wN, wM, Nat.reduceAdd, Nat.reduceMul] | ((first | refine gwR [] ?_ | refine gwD [] ?_); intro Q hQ hP; simp [hC, hY, wordsXs, wb]; (first | refine hQ _ _ _ _ (by kernel_rfl) ?_ | refine hP _ _ (by kernel_rfl) fun _ => ?_); clear hQ hP Q) | apply gwB | apply gwT | apply gwK | apply gwE | apply gwG | apply gwL | simp only [blockG_exit] | (refine gwC ?_ ?_ <;> (intro hb; first | (cases hb; done) | skip)))
        refine ⟨.inl trivial, ?_⟩
        simp [Tryz.results111, wordsXs]
        omega
      · rw [Nat.min_eq_left (by omega)]
        have : stop = 0 ∨ stop = 1 ∨ stop = 2 ∨ stop = 3 := by omega
        rcases this with rfl | rfl | rfl | rfl <;> unfold wordsSt wHp
        all_goals
          repeat' (first | apply gwS | simp only [wN, wM, Nat.reduceAdd, Nat.reduceMul] | ((first | refine gwR [] ?_ | refine gwD [] ?_); intro Q hQ hP; simp [hC, hY, wordsXs, wb]; (first | refine hQ _ _ _ _ (by kernel_rfl) ?_ | refine hP _ _ (by kernel_rfl) fun _ => ?_); clear hQ hP Q) | apply gwB | apply gwT | apply gwK | apply gwE | apply gwG | apply gwL | simp only [blockG_exit] | (refine gwC ?_ ?_ <;> (intro hb; first | (cases hb; done) | skip)))
        all_goals
          refine ⟨.inr trivial, ?_⟩
          simp [Tryz.results111, wordsXs]

theorem pow64 (i : Nat) : (2 : Int) ^ (64 * i) = 2 ^ (32 * (2 * i)) := by congr 1; omega
theorem wadd (a b c : Int) (i : Nat) : (wi a i + wi b i + car a b c (2 * i)) % 18446744073709551616 = wi (a + b + c) i := by
  unfold wi car
  rw [pow64, ediv_split a b c _ (pow32_pos (2 * i))]
  omega
theorem wcar (a b c : Int) (i : Nat) : (wi a i + wi b i + car a b c (2 * i)) / 18446744073709551616 = car a b c (2 * (i + 1)) := by
  unfold wi car
  have e : (2 : Int) ^ (32 * (2 * (i + 1))) = 2 ^ (32 * (2 * i)) * 18446744073709551616 := by
    rw [show 32 * (2 * (i + 1)) = 32 * (2 * i) + 64 by omega, Int.pow_add]; rfl
  rw [pow64, e, emod_mul a _ _ (pow32_pos (2 * i)) (by omega), emod_mul b _ _ (pow32_pos (2 * i)) (by omega)]
  generalize hM : (2 : Int) ^ (32 * (2 * i)) = M
  have hp : 0 < M := hM ▸ pow32_pos (2 * i)
  have e : a % M + M * (a / M % 18446744073709551616) + (b % M + M * (b / M % 18446744073709551616)) + c = (a % M + b % M + c) + M * (a / M % 18446744073709551616 + b / M % 18446744073709551616) := by rw [Int.mul_add]; omega
  rw [e, ← Int.ediv_ediv_of_nonneg (Int.le_of_lt hp), Int.add_mul_ediv_left _ _ (by omega)]
  congr 1
  omega

theorem IterG.cast {P : Program} {G : Hp} {f : FuncId} {caps caps' : Array Value} {hp : Hp} {rs rs' : List Nat} {xs : List (Array Value)} (h : IterG P G f caps hp rs xs) (e1 : caps = caps') (e2 : rs = rs') : IterG P G f caps' hp rs' xs := by subst e1 e2; exact h

theorem tsL_ids {D : Nat → Prop} {l : List (Nat × Value)} (h : ∀ p ∈ l, idsV D p.2) (t : Nat) : idsV D (tsL l t) := by
  rcases tsL_mem (l := l) (t := t) with e | e
  · rw [e]; simp [junk, idsV, idsA, idsF, ids0]
  · exact h _ e
def plHp (a b c : Int) (i : Nat) : Hp := hpL G0 [(200, wb a), (208, wb b), (216, ⟨#[.int .u64 (car a b c (2 * i))], .ty 28⟩),
  (224, ⟨#[.int .u64 (if 0 < i then wi (a + b + c) 0 else 0), .int .u64 (if 1 < i then wi (a + b + c) 1 else 0), .int .u64 (if 2 < i then wi (a + b + c) 2 else 0), .int .u64 (if 3 < i then wi (a + b + c) 3 else 0)], .ty 30⟩),
  (232, ⟨#[.int .i64 i], .ty 3⟩)]
def plTs : Nat → Value := tsL [(3, .pointer (some ⟨200, 0, none⟩)), (4, .pointer (some ⟨208, 0, none⟩)), (5, .pointer (some ⟨216, 0, none⟩)), (6, .pointer (some ⟨224, 0, none⟩)), (7, .pointer (some ⟨232, 0, none⟩))]
theorem wplus_ret (a b c : Int) (h0 : 0 ≤ c) (h1 : c ≤ 1) : Ret Tryz.prog G0 72 #[wd a, wd b, .int .u64 c] (wd (a + b + c)) := by
  refine ret_of G0F Tryz.func72 rfl Tryz.call72 (by simp) (by simp) (by simp [Tryz.ntmps72]) ?_
  intro C hC hC0 hY
  repeat' (first | apply gwS | simp only [wN, wM, Nat.reduceAdd, Nat.reduceMul] | ((first | refine gwR [] ?_ | refine gwD [] ?_); intro Q hQ hP; simp [hC, hY]; (first | refine hQ _ _ _ _ (by kernel_rfl) ?_ | refine hP _ _ (by kernel_rfl) fun _ => ?_); clear hQ hP Q) | apply gwB | apply gwT | apply gwK | apply gwE | apply gwG | apply gwL | simp only [blockG_exit] | (refine gwC ?_ ?_ <;> (intro hb; first | (cases hb; done) | skip)))
  refine GW_region' [92] (by kernel_rfl) ?_; intro Q hQ hP; simp [hC, hY]
  refine heapK_of (words_new a b 264 (by omega)) (by simp) (fun _ _ => rfl) (by simp [Res.at]) ?_
  simp
  refine hQ _ _ _ _ ?_; clear hQ hP Q
  repeat' (first | apply gwS | simp only [wN, wM, Nat.reduceAdd, Nat.reduceMul] | ((first | refine gwR [] ?_ | refine gwD [] ?_); intro Q hQ hP; simp [hC, hY]; (first | refine hQ _ _ _ _ (by kernel_rfl) ?_ | refine hP _ _ (by kernel_rfl) fun _ => ?_); clear hQ hP Q) | apply gwB | apply gwT | apply gwK | apply gwE | apply gwG | apply gwL | simp only [blockG_exit] | (refine gwC ?_ ?_ <;> (intro hb; first | (cases hb; done) | skip)))
  refine GW_range (f := 111) (rs := [264, 265]) (xs := wordsXs a b) (caps := #[.pointer (some ⟨264, 0, none⟩), .pointer (some ⟨265, 0, none⟩)]) (by simp) ?_ (by simp [wordsXs]) (by simp [Tryz.ntmps72]) plTs (plHp a b c) 300 4 (by simp [wordsXs]) ?_ ?_ ?_ ?_ ?_
  · rw [hC]
    refine IterG.cast (IterX.rn (fun k => if k = 100 then 264 else if k = 101 then 265 else k) G0F (fun k hk => hpL_low (by simp) hk) (rs := [100, 101]) ?_ (words_it a b)) (by simp [ren0]) (by simp)
    refine ⟨fun k hk => ?_, ?_, ?_, ?_⟩
    · have h1 : ¬ k = 100 := by omega
      have h2 : ¬ k = 101 := by omega
      have h3 : ¬ k = 200 := by omega
      have h4 : ¬ k = 208 := by omega
      have h5 : ¬ k = 216 := by omega
      have h6 : ¬ k = 224 := by omega
      have h7 : ¬ k = 232 := by omega
      have h8 : ¬ k = 264 := by omega
      have h9 : ¬ k = 265 := by omega
      simp [h1, h2, h3, h4, h5, h6, h7, h8, h9, wHp]
    · simp
    · simp [wHp, wb, Blk.rn, renF, ren0]
    · simp
  · refine weakL _ 300 hC G0F (m0 := []) hC0 (by omega) ?_ ?_ ?_
    · simp [idsV, idsA, idsF, ids0, dom]
    · simp [ids_lit, idsF, ids0, wb, car_zero]
    · simp
  · simp [plHp, dom]
  · intro i hi t
    refine tsL_ids ?_ t
    simp [idsV, idsA, idsF, ids0, dom, plHp]
  · intro i x hi hx C1 l hC1 hh1 hY1
    have hCC := hC
    have hC1' : C1.G = G0 := hC1.trans hC
    have c0 := fun k => (car_bd a b c h0 h1 k).1
    have c1 := fun k => (car_bd a b c h0 h1 k).2
    have A0 : (wi a 0 + wi b 0 + car a b c 0) % 18446744073709551616 = wi (a + b + c) 0 := wadd a b c 0
    have A1 : (wi a 1 + wi b 1 + car a b c 2) % 18446744073709551616 = wi (a + b + c) 1 := wadd a b c 1
    have A2 : (wi a 2 + wi b 2 + car a b c 4) % 18446744073709551616 = wi (a + b + c) 2 := wadd a b c 2
    have A3 : (wi a 3 + wi b 3 + car a b c 6) % 18446744073709551616 = wi (a + b + c) 3 := wadd a b c 3
    have B0 : (wi a 0 + wi b 0 + car a b c 0) / 18446744073709551616 = car a b c 2 := wcar a b c 0
    have B1 : (wi a 1 + wi b 1 + car a b c 2) / 18446744073709551616 = car a b c 4 := wcar a b c 1
    have B2 : (wi a 2 + wi b 2 + car a b c 4) / 18446744073709551616 = car a b c 6 := wcar a b c 2
    have B3 : (wi a 3 + wi b 3 + car a b c 6) / 18446744073709551616 = car a b c 8 := wcar a b c 3
    replace hC := hC1'
    replace hY := hY1
    have : i = 0 ∨ i = 1 ∨ i = 2 ∨ i = 3 := by omega
    rcases this with rfl | rfl | rfl | rfl
    all_goals
      simp [wordsXs] at hx
      subst hx
      unfold plHp
    all_goals
      repeat' (first | apply gwS | simp only [wN, wM, Nat.reduceAdd, Nat.reduceMul] | ((first | refine gwR [] ?_ | refine gwD [] ?_); intro Q hQ hP; simp [hC, hY, roundTs, plTs]; (first | refine hQ _ _ _ _ (by kernel_rfl) ?_ | refine hP _ _ (by kernel_rfl) fun _ => ?_); clear hQ hP Q) | apply gwB | apply gwT | apply gwK | apply gwE | apply gwG | apply gwL | simp only [blockG_exit] | (refine gwC ?_ ?_ <;> (intro hb; first | (cases hb; done) | skip)))
    all_goals
      intro C2 hC2 hh2 hY2
      replace hC : C2.G = G0 := hC2.trans hCC
      replace hY := hY2
      repeat' (first | apply gwS | simp only [wN, wM, Nat.reduceAdd, Nat.reduceMul] | ((first | refine gwR [] ?_ | refine gwD [] ?_); intro Q hQ hP; simp [hC, hY, roundTs, plTs, c0, c1, wi_ge, A0, A1, A2, A3, B0, B1, B2, B3]; (first | refine hQ _ _ _ _ (by kernel_rfl) ?_ | refine hP _ _ (by kernel_rfl) fun _ => ?_); clear hQ hP Q) | apply gwB | apply gwT | apply gwK | apply gwE | apply gwG | apply gwL | simp only [blockG_exit] | (refine gwC ?_ ?_ <;> (intro hb; first | (cases hb; done) | skip)))
    all_goals
      refine weakL [] 300 hC1' G0F hh1 (by omega) ?_ ?_ ?_
      · simp
      · simp [ids_lit, idsF, ids0, wb]
      · simp [wb]
  · left
    refine ⟨rfl, ?_⟩
    unfold plHp plTs
    repeat' (first | apply gwS | simp only [wN, wM, Nat.reduceAdd, Nat.reduceMul] | ((first | refine gwR [] ?_ | refine gwD [] ?_); intro Q hQ hP; simp [hC, hY]; (first | refine hQ _ _ _ _ (by kernel_rfl) ?_ | refine hP _ _ (by kernel_rfl) fun _ => ?_); clear hQ hP Q) | apply gwB | apply gwT | apply gwK | apply gwE | apply gwG | apply gwL | simp only [blockG_exit] | (refine gwC ?_ ?_ <;> (intro hb; first | (cases hb; done) | skip)))
    refine ⟨.inr trivial, ?_⟩
    simp [Tryz.results72]
@[simp] theorem wplus (a b c : Int) (h0 : 0 ≤ c) (h1 : c ≤ 1) (K : Value → Prop) : callK Tryz.prog G0 72 #[Value.agg #[.int .u64 (wi (a) 0), .int .u64 (wi (a) 1), .int .u64 (wi (a) 2), .int .u64 (wi (a) 3)], Value.agg #[.int .u64 (wi (b) 0), .int .u64 (wi (b) 1), .int .u64 (wi (b) 2), .int .u64 (wi (b) 3)], .int .u64 c] K ↔ K (wd (a + b + c)) := callK_iff G0W (by kernel_rfl) (wplus_ret a b c h0 h1)

theorem wadd_ret (a b : Int) : Ret Tryz.prog G0 69 #[wd a, wd b] (.tuple #[wd (a + b), .bool (ng a == ng b && ng (a + b) != ng a)]) := by
  refine ret_of G0F Tryz.func69 rfl Tryz.call69 (by simp) (by simp) (by simp [Tryz.ntmps69]) ?_
  intro C hC hC0 hY
  cases hq : (ng a == ng b)
  all_goals
    repeat' (first | apply gwS | simp only [wN, wM, Nat.reduceAdd, Nat.reduceMul] | ((first | refine gwR [] ?_ | refine gwD [] ?_); intro Q hQ hP; simp [hC, hY, hq]; (first | refine hQ _ _ _ _ (by kernel_rfl) ?_ | refine hP _ _ (by kernel_rfl) fun _ => ?_); clear hQ hP Q) | apply gwB | apply gwT | apply gwK | apply gwE | apply gwG | apply gwL | simp only [blockG_exit] | (refine gwC ?_ ?_ <;> (intro hb; first | (cases hb; done) | skip)))
    refine ⟨.inr trivial, ?_⟩
    simp [Tryz.results69, hq]
@[simp] theorem wAdd (a b : Int) (K : Value → Prop) : callK Tryz.prog G0 69 #[Value.agg #[.int .u64 (wi (a) 0), .int .u64 (wi (a) 1), .int .u64 (wi (a) 2), .int .u64 (wi (a) 3)], Value.agg #[.int .u64 (wi (b) 0), .int .u64 (wi (b) 1), .int .u64 (wi (b) 2), .int .u64 (wi (b) 3)]] K ↔ K (.tuple #[wd (a + b), .bool (ng a == ng b && ng (a + b) != ng a)]) := callK_iff G0W (by kernel_rfl) (wadd_ret a b)
theorem wof_ret (n : Int) (h : i64 n) : Ret Tryz.prog G0 25 #[.int .i64 n] (wd n) := by
  refine ret_of G0F Tryz.func25 rfl Tryz.call25 (by simp) (by simp) (by simp [Tryz.ntmps25]) ?_
  intro C hC hC0 hY
  repeat' (first | apply gwS | simp only [wN, wM, Nat.reduceAdd, Nat.reduceMul] | ((first | refine gwR [] ?_ | refine gwD [] ?_); intro Q hQ hP; simp [hC, hY]; (first | refine hQ _ _ _ _ (by kernel_rfl) ?_ | refine hP _ _ (by kernel_rfl) fun _ => ?_); clear hQ hP Q) | apply gwB | apply gwT | apply gwK | apply gwE | apply gwG | apply gwL | simp only [blockG_exit] | (refine gwC ?_ ?_ <;> (intro hb; first | (cases hb; done) | skip)))
  refine ⟨.inr trivial, ?_⟩
  simp [Tryz.results25, wi]
  unfold i64 at h
  rw [Int.fdiv_eq_ediv_of_nonneg _ (by omega)]
  by_cases hn : n < 0
  · have e1 : n / 9223372036854775808 = -1 := by omega
    have e2 : n / 18446744073709551616 = -1 := by omega
    have e3 : n / 340282366920938463463374607431768211456 = -1 := by omega
    have e4 : n / 6277101735386680763835789423207666416102355444464034512896 = -1 := by omega
    rw [e1, e2, e3, e4]; decide
  · have e1 : n / 9223372036854775808 = 0 := by omega
    have e2 : n / 18446744073709551616 = 0 := by omega
    have e3 : n / 340282366920938463463374607431768211456 = 0 := by omega
    have e4 : n / 6277101735386680763835789423207666416102355444464034512896 = 0 := by omega
    rw [e1, e2, e3, e4]; decide
@[simp] theorem wOf (n : Int) (h : i64 n) (K : Value → Prop) : callK Tryz.prog G0 25 #[.int .i64 n] K ↔ K (wd n) := callK_iff G0W (by kernel_rfl) (wof_ret n h)
theorem xor_ones (x : Int) (h0 : 0 ≤ x) (h1 : x < 18446744073709551616) : bitI .xor .u64 IntKind.u64.max x = 18446744073709551615 - x := by
  have e : BitVec.ofInt 64 IntKind.u64.max = BitVec.allOnes 64 := by decide
  unfold bitI
  show IntKind.u64.wrap ((BitVec.ofInt 64 IntKind.u64.max ^^^ BitVec.ofInt 64 x : BitVec 64).toNat : Int) = _
  rw [wrap_u64, e, BitVec.allOnes_xor, BitVec.toNat_not]
  have : (BitVec.ofInt 64 x).toNat = x.toNat := by
    rw [BitVec.toNat_ofInt]
    congr 1
    exact Int.emod_eq_of_lt h0 h1
  rw [this]
  omega
theorem wnotw (z : Int) (k : Nat) : 18446744073709551615 - wi z k = wi (-z - 1) k := by
  unfold wi
  generalize hM : (2 : Int) ^ (64 * k) = M
  have hp : 0 < M := by rw [← hM, pow64]; exact pow32_pos _
  have e : (-z - 1) / M = -(z / M) - 1 := by
    have h1 := Int.emod_add_mul_ediv z M
    have h2 := Int.emod_nonneg z (b := M) (by omega)
    have h3 := Int.emod_lt_of_pos z hp
    have : -z - 1 = (M - 1 - z % M) + M * (-(z / M) - 1) := by rw [Int.mul_sub, Int.mul_neg]; omega
    rw [this, Int.add_mul_ediv_left _ _ (by omega), Int.ediv_eq_zero_of_lt (by omega) (by omega)]
    omega
  rw [e]
  omega
theorem wnot_ret (z : Int) : Ret Tryz.prog G0 73 #[wd z] (wd (-z - 1)) := by
  refine ret_of G0F Tryz.func73 rfl Tryz.call73 (by simp) (by simp) (by simp [Tryz.ntmps73]) ?_
  intro C hC hC0 hY
  repeat' (first | apply gwS | simp only [wN, wM, Nat.reduceAdd, Nat.reduceMul] | ((first | refine gwR [] ?_ | refine gwD [] ?_); intro Q hQ hP; simp [hC, hY]; (first | refine hQ _ _ _ _ (by kernel_rfl) ?_ | refine hP _ _ (by kernel_rfl) fun _ => ?_); clear hQ hP Q) | apply gwB | apply gwT | apply gwK | apply gwE | apply gwG | apply gwL | simp only [blockG_exit] | (refine gwC ?_ ?_ <;> (intro hb; first | (cases hb; done) | skip)))
  refine ⟨.inr trivial, ?_⟩
  have e : (if IntKind.u64.signed = true then (-1 : Int) else IntKind.u64.max) = IntKind.u64.max := rfl
  have X := fun k => xor_ones (wi z k) (wi_ge z k) (wi_lt z k)
  simp [Tryz.results73, e, X, wnotw]
@[simp] theorem wNot (z : Int) (K : Value → Prop) : callK Tryz.prog G0 73 #[Value.agg #[.int .u64 (wi (z) 0), .int .u64 (wi (z) 1), .int .u64 (wi (z) 2), .int .u64 (wi (z) 3)]] K ↔ K (wd (-z - 1)) := callK_iff G0W (by kernel_rfl) (wnot_ret z)
theorem wsub_ret (a b : Int) : Ret Tryz.prog G0 42 #[wd a, wd b] (.tuple #[wd (a - b), .bool (ng a != ng b && ng (a - b) != ng a)]) := by
  refine ret_of G0F Tryz.func42 rfl Tryz.call42 (by simp) (by simp) (by simp [Tryz.ntmps42]) ?_
  intro C hC hC0 hY
  have e : a + (-b - 1) + 1 = a - b := by omega
  cases hq : (ng a != ng b)
  all_goals
    repeat' (first | apply gwS | simp only [wN, wM, Nat.reduceAdd, Nat.reduceMul] | ((first | refine gwR [] ?_ | refine gwD [] ?_); intro Q hQ hP; simp [hC, hY, hq, e]; (first | refine hQ _ _ _ _ (by kernel_rfl) ?_ | refine hP _ _ (by kernel_rfl) fun _ => ?_); clear hQ hP Q) | apply gwB | apply gwT | apply gwK | apply gwE | apply gwG | apply gwL | simp only [blockG_exit] | (refine gwC ?_ ?_ <;> (intro hb; first | (cases hb; done) | skip)))
    refine ⟨.inr trivial, ?_⟩
    simp [Tryz.results42, hq, e]
@[simp] theorem wSub (a b : Int) (K : Value → Prop) : callK Tryz.prog G0 42 #[Value.agg #[.int .u64 (wi (a) 0), .int .u64 (wi (a) 1), .int .u64 (wi (a) 2), .int .u64 (wi (a) 3)], Value.agg #[.int .u64 (wi (b) 0), .int .u64 (wi (b) 1), .int .u64 (wi (b) 2), .int .u64 (wi (b) 3)]] K ↔ K (.tuple #[wd (a - b), .bool (ng a != ng b && ng (a - b) != ng a)]) := callK_iff G0W (by kernel_rfl) (wsub_ret a b)
theorem wint_ret (z : Int) : Ret Tryz.prog G0 28 #[wd z] (.tuple #[.int .i64 (if i64 (sz z) then sz z else 0), .bool (decide (i64 (sz z)))]) := by
  refine ret_of G0F Tryz.func28 rfl Tryz.call28 (by simp) (by simp) (by simp [Tryz.ntmps28]) ?_
  intro C hC hC0 hY
  have h := bmod_i64 (wi z 0)
  repeat' (first | apply gwS | simp only [wN, wM, Nat.reduceAdd, Nat.reduceMul] | ((first | refine gwR [] ?_ | refine gwD [] ?_); intro Q hQ hP; simp [hC, hY, h]; (first | refine hQ _ _ _ _ (by kernel_rfl) ?_ | refine hP _ _ (by kernel_rfl) fun _ => ?_); clear hQ hP Q) | apply gwB | apply gwT | apply gwK | apply gwE | apply gwG | apply gwL | simp only [blockG_exit] | (refine gwC ?_ ?_ <;> (intro hb; first | (cases hb; done) | skip)))
  all_goals
    refine ⟨.inr trivial, ?_⟩
    try rw [wne] at hb
    try rw [weq] at hb
    simp at hb
    rw [eq_comm, int_is] at hb
    simp [Tryz.results28, hb]
  exact int_val z hb
@[simp] theorem wInt (z : Int) (K : Value → Prop) : callK Tryz.prog G0 28 #[Value.agg #[.int .u64 (wi (z) 0), .int .u64 (wi (z) 1), .int .u64 (wi (z) 2), .int .u64 (wi (z) 3)]] K ↔ K (.tuple #[.int .i64 (if i64 (sz z) then sz z else 0), .bool (decide (i64 (sz z)))]) := callK_iff G0W (by kernel_rfl) (wint_ret z)

theorem ng_zero : ng 0 = false := by decide
@[simp] theorem wSubz (a : Int) (K : Value → Prop) : callK Tryz.prog G0 42 #[.agg #[.int .u64 0, .int .u64 0, .int .u64 0, .int .u64 0], Value.agg #[.int .u64 (wi (a) 0), .int .u64 (wi (a) 1), .int .u64 (wi (a) 2), .int .u64 (wi (a) 3)]] K ↔ K (.tuple #[wd (-a), .bool (ng a && ng (-a))]) := by
  have := wSub 0 a K
  have e : ((false != ng a) && ng (0 - a) != false) = (ng a && ng (-a)) := by
    rw [Int.zero_sub]; cases ng a <;> cases ng (-a) <;> rfl
  rw [ng_zero, e, Int.zero_sub] at this
  simpa using this
theorem wneg_ret (a : Int) : Ret Tryz.prog G0 54 #[wd a] (.tuple #[wd (-a), .bool (ng a && ng (-a))]) := by
  refine ret_of G0F Tryz.func54 rfl Tryz.call54 (by simp) (by simp) (by simp [Tryz.ntmps54]) ?_
  intro C hC hC0 hY
  repeat' (first | apply gwS | simp only [wN, wM, Nat.reduceAdd, Nat.reduceMul] | ((first | refine gwR [] ?_ | refine gwD [] ?_); intro Q hQ hP; simp [hC, hY]; (first | refine hQ _ _ _ _ (by kernel_rfl) ?_ | refine hP _ _ (by kernel_rfl) fun _ => ?_); clear hQ hP Q) | apply gwB | apply gwT | apply gwK | apply gwE | apply gwG | apply gwL | simp only [blockG_exit] | (refine gwC ?_ ?_ <;> (intro hb; first | (cases hb; done) | skip)))
  refine ⟨.inr trivial, ?_⟩
  simp [Tryz.results54]
@[simp] theorem wNeg (a : Int) (K : Value → Prop) : callK Tryz.prog G0 54 #[Value.agg #[.int .u64 (wi (a) 0), .int .u64 (wi (a) 1), .int .u64 (wi (a) 2), .int .u64 (wi (a) 3)]] K ↔ K (.tuple #[wd (-a), .bool (ng a && ng (-a))]) := callK_iff G0W (by kernel_rfl) (wneg_ret a)

theorem nani_ret (x : Int) : Ret Tryz.prog G0 93 #[.int .i64 x] (.bool false) := by
  refine ret_of G0F Tryz.func93 rfl Tryz.call93 rfl (by simp) (by simp [Tryz.ntmps93]) ?_
  intro C hC hC0 hY
  repeat' (first | apply gwS | simp only [wN, wM, Nat.reduceAdd, Nat.reduceMul] | ((first | refine gwR [] ?_ | refine gwD [] ?_); intro Q hQ hP; simp [hC, hY]; (first | refine hQ _ _ _ _ (by kernel_rfl) ?_ | refine hP _ _ (by kernel_rfl) fun _ => ?_); clear hQ hP Q) | apply gwB | apply gwT | apply gwK | apply gwE | apply gwG | apply gwL | simp only [blockG_exit] | (refine gwC ?_ ?_ <;> (intro hb; first | (cases hb; done) | skip)))
  refine ⟨.inr trivial, ?_⟩
  simp [Tryz.results93]
@[simp] theorem nani (x : Int) (K : Value → Prop) : callK Tryz.prog G0 93 #[.int .i64 x] K ↔ K (.bool false) := callK_iff G0W (by kernel_rfl) (nani_ret x)
theorem nanu_ret (x : Int) : Ret Tryz.prog G0 94 #[.int .u64 x] (.bool false) := by
  refine ret_of G0F Tryz.func94 rfl Tryz.call94 rfl (by simp) (by simp [Tryz.ntmps94]) ?_
  intro C hC hC0 hY
  repeat' (first | apply gwS | simp only [wN, wM, Nat.reduceAdd, Nat.reduceMul] | ((first | refine gwR [] ?_ | refine gwD [] ?_); intro Q hQ hP; simp [hC, hY]; (first | refine hQ _ _ _ _ (by kernel_rfl) ?_ | refine hP _ _ (by kernel_rfl) fun _ => ?_); clear hQ hP Q) | apply gwB | apply gwT | apply gwK | apply gwE | apply gwG | apply gwL | simp only [blockG_exit] | (refine gwC ?_ ?_ <;> (intro hb; first | (cases hb; done) | skip)))
  refine ⟨.inr trivial, ?_⟩
  simp [Tryz.results94]
@[simp] theorem nanu (x : Int) (K : Value → Prop) : callK Tryz.prog G0 94 #[.int .u64 x] K ↔ K (.bool false) := callK_iff G0W (by kernel_rfl) (nanu_ret x)
theorem cmpi_ret (x y : Int) : Ret Tryz.prog G0 75 #[.int .i64 x, .int .i64 y] (.int .i64 (cmpI x y)) := by
  refine ret_of G0F Tryz.func75 rfl Tryz.call75 rfl (by simp) (by simp [Tryz.ntmps75]) ?_
  intro C hC hC0 hY
  by_cases h1 : x < y
  · (repeat' (first | apply gwS | simp only [wN, wM, Nat.reduceAdd, Nat.reduceMul] | ((first | refine gwR [] ?_ | refine gwD [] ?_); intro Q hQ hP; simp [hC, hY, h1]; (first | refine hQ _ _ _ _ (by kernel_rfl) ?_ | refine hP _ _ (by kernel_rfl) fun _ => ?_); clear hQ hP Q) | apply gwB | apply gwT | apply gwK | apply gwE | apply gwG | apply gwL | simp only [blockG_exit] | (refine gwC ?_ ?_ <;> (intro hb; first | (cases hb; done) | skip))))
    all_goals
      refine ⟨.inr trivial, ?_⟩
      simp [Tryz.results75, cmpI, h1]
  · by_cases h2 : y < x
    · have h3 : ¬ x = y := by omega
      (repeat' (first | apply gwS | simp only [wN, wM, Nat.reduceAdd, Nat.reduceMul] | ((first | refine gwR [] ?_ | refine gwD [] ?_); intro Q hQ hP; simp [hC, hY, h1, h2]; (first | refine hQ _ _ _ _ (by kernel_rfl) ?_ | refine hP _ _ (by kernel_rfl) fun _ => ?_); clear hQ hP Q) | apply gwB | apply gwT | apply gwK | apply gwE | apply gwG | apply gwL | simp only [blockG_exit] | (refine gwC ?_ ?_ <;> (intro hb; first | (cases hb; done) | skip))))
      all_goals
        refine ⟨.inr trivial, ?_⟩
        simp [Tryz.results75, cmpI, h1, h3]
    · have h3 : x = y := by omega
      subst h3
      (repeat' (first | apply gwS | simp only [wN, wM, Nat.reduceAdd, Nat.reduceMul] | ((first | refine gwR [] ?_ | refine gwD [] ?_); intro Q hQ hP; simp [hC, hY, h1]; (first | refine hQ _ _ _ _ (by kernel_rfl) ?_ | refine hP _ _ (by kernel_rfl) fun _ => ?_); clear hQ hP Q) | apply gwB | apply gwT | apply gwK | apply gwE | apply gwG | apply gwL | simp only [blockG_exit] | (refine gwC ?_ ?_ <;> (intro hb; first | (cases hb; done) | skip))))
      all_goals
        refine ⟨.inr trivial, ?_⟩
        simp [Tryz.results75, cmpI]
@[simp] theorem cmpi (x y : Int) (K : Value → Prop) : callK Tryz.prog G0 75 #[.int .i64 x, .int .i64 y] K ↔ K (.int .i64 (cmpI x y)) := callK_iff G0W (by kernel_rfl) (cmpi_ret x y)
theorem cmpu_ret (x y : Int) : Ret Tryz.prog G0 76 #[.int .u64 x, .int .u64 y] (.int .i64 (cmpI x y)) := by
  refine ret_of G0F Tryz.func76 rfl Tryz.call76 rfl (by simp) (by simp [Tryz.ntmps76]) ?_
  intro C hC hC0 hY
  by_cases h1 : x < y
  · (repeat' (first | apply gwS | simp only [wN, wM, Nat.reduceAdd, Nat.reduceMul] | ((first | refine gwR [] ?_ | refine gwD [] ?_); intro Q hQ hP; simp [hC, hY, h1]; (first | refine hQ _ _ _ _ (by kernel_rfl) ?_ | refine hP _ _ (by kernel_rfl) fun _ => ?_); clear hQ hP Q) | apply gwB | apply gwT | apply gwK | apply gwE | apply gwG | apply gwL | simp only [blockG_exit] | (refine gwC ?_ ?_ <;> (intro hb; first | (cases hb; done) | skip))))
    all_goals
      refine ⟨.inr trivial, ?_⟩
      simp [Tryz.results76, cmpI, h1]
  · by_cases h2 : y < x
    · have h3 : ¬ x = y := by omega
      (repeat' (first | apply gwS | simp only [wN, wM, Nat.reduceAdd, Nat.reduceMul] | ((first | refine gwR [] ?_ | refine gwD [] ?_); intro Q hQ hP; simp [hC, hY, h1, h2]; (first | refine hQ _ _ _ _ (by kernel_rfl) ?_ | refine hP _ _ (by kernel_rfl) fun _ => ?_); clear hQ hP Q) | apply gwB | apply gwT | apply gwK | apply gwE | apply gwG | apply gwL | simp only [blockG_exit] | (refine gwC ?_ ?_ <;> (intro hb; first | (cases hb; done) | skip))))
      all_goals
        refine ⟨.inr trivial, ?_⟩
        simp [Tryz.results76, cmpI, h1, h3]
    · have h3 : x = y := by omega
      subst h3
      (repeat' (first | apply gwS | simp only [wN, wM, Nat.reduceAdd, Nat.reduceMul] | ((first | refine gwR [] ?_ | refine gwD [] ?_); intro Q hQ hP; simp [hC, hY, h1]; (first | refine hQ _ _ _ _ (by kernel_rfl) ?_ | refine hP _ _ (by kernel_rfl) fun _ => ?_); clear hQ hP Q) | apply gwB | apply gwT | apply gwK | apply gwE | apply gwG | apply gwL | simp only [blockG_exit] | (refine gwC ?_ ?_ <;> (intro hb; first | (cases hb; done) | skip))))
      all_goals
        refine ⟨.inr trivial, ?_⟩
        simp [Tryz.results76, cmpI]
@[simp] theorem cmpu (x y : Int) (K : Value → Prop) : callK Tryz.prog G0 76 #[.int .u64 x, .int .u64 y] K ↔ K (.int .i64 (cmpI x y)) := callK_iff G0W (by kernel_rfl) (cmpu_ret x y)

def cmpN (a b : Int) (j : Nat) : Int := if j = 0 then cmpI (Int.bmod (wi a 3) 18446744073709551616) (Int.bmod (wi b 3) 18446744073709551616) else cmpI (wi a (3 - j)) (wi b (3 - j))
def wcmpSt (a b : Int) (j : Nat) : GS :=
  ⟨tsL [(2, .pointer (some ⟨200, 0, none⟩)), (3, .pointer (some ⟨208, 0, none⟩)), (5, .int .i64 (cmpN a b j)), (6, .int .i64 (2 - j))], hpL G0 [(200, wb a), (208, wb b)], 300, 0⟩
theorem cmpI_0 {x y : Int} : cmpI x y = 0 ↔ x = y := by unfold cmpI; split <;> (try split) <;> omega
theorem bm3 (z : Int) : Int.bmod (wi z 3) 18446744073709551616 = wi z 3 - (if ng z then 18446744073709551616 else 0) := by
  have := wi_ge z 3; have := wi_lt z 3
  rw [Int.bmod_def]; unfold ng; simp only [decide_eq_true_eq]; split <;> split <;> omega
theorem sz_hi (z : Int) : ∃ r, sz z = Int.bmod (wi z 3) 18446744073709551616 * 6277101735386680763835789423207666416102355444464034512896 + r ∧ r = wi z 0 + 18446744073709551616 * wi z 1 + 340282366920938463463374607431768211456 * wi z 2 ∧ 0 ≤ r ∧ r < 6277101735386680763835789423207666416102355444464034512896 := by
  refine ⟨_, ?_, rfl, ?_, ?_⟩
  · rw [sz_w, bm3]; split <;> omega
  · have := wi_ge z 0; have := wi_ge z 1; have := wi_ge z 2; omega
  · have := wi_lt z 0; have := wi_lt z 1; have := wi_lt z 2; omega
theorem cmpI_eq {x y u v : Int} (h1 : x < y ↔ u < v) (h2 : x = y ↔ u = v) : cmpI x y = cmpI u v := by
  unfold cmpI; simp only [h1, h2]
theorem cmp_key (a b : Int) (k : Nat) (hk : k = (if cmpN a b 0 = 0 then if cmpN a b 1 = 0 then if cmpN a b 2 = 0 then 3 else 2 else 1 else 0)) : cmpN a b k = cmpI (sz a) (sz b) := by
  obtain ⟨r, ea, er, r0, r1⟩ := sz_hi a
  obtain ⟨q, eb, eq, q0, q1⟩ := sz_hi b
  have z0 : cmpN a b 0 = 0 ↔ Int.bmod (wi a 3) 18446744073709551616 = Int.bmod (wi b 3) 18446744073709551616 := by simp only [cmpN, if_true, cmpI_0]
  have z1 : cmpN a b 1 = 0 ↔ wi a 2 = wi b 2 := by simp [cmpN, cmpI_0]
  have z2 : cmpN a b 2 = 0 ↔ wi a 1 = wi b 1 := by simp [cmpN, cmpI_0]
  simp only [z0, z1, z2] at hk
  have := wi_ge a 0; have := wi_lt a 0; have := wi_ge a 1; have := wi_lt a 1; have := wi_ge a 2; have := wi_lt a 2
  have := wi_ge b 0; have := wi_lt b 0; have := wi_ge b 1; have := wi_lt b 1; have := wi_ge b 2; have := wi_lt b 2
  clear z0 z1 z2
  by_cases h0 : Int.bmod (wi a 3) 18446744073709551616 = Int.bmod (wi b 3) 18446744073709551616
  · rw [if_pos h0] at hk
    rw [h0] at ea
    by_cases h1 : wi a 2 = wi b 2
    · rw [if_pos h1] at hk
      by_cases h2 : wi a 1 = wi b 1
      · rw [if_pos h2] at hk
        subst hk
        simp only [cmpN]
        exact cmpI_eq (by first | omega | (simp; omega)) (by first | omega | (simp; omega))
      · rw [if_neg h2] at hk
        subst hk
        simp only [cmpN]
        exact cmpI_eq (by first | omega | (simp; omega)) (by first | omega | (simp; omega))
    · rw [if_neg h1] at hk
      subst hk
      simp only [cmpN]
      exact cmpI_eq (by first | omega | (simp; omega)) (by first | omega | (simp; omega))
  · rw [if_neg h0] at hk
    subst hk
    simp only [cmpN]
    exact cmpI_eq (by first | omega | (simp; omega)) (by first | omega | (simp; omega))
theorem wcmp_ret (a b : Int) : Ret Tryz.prog G0 44 #[wd a, wd b] (.int .i64 (cmpI (sz a) (sz b))) := by
  refine ret_of G0F Tryz.func44 rfl Tryz.call44 (by simp) (by simp) (by simp [Tryz.ntmps44]) ?_
  intro C hC hC0 hY
  repeat' (first | apply gwS | simp only [wN, wM, Nat.reduceAdd, Nat.reduceMul] | ((first | refine gwR [] ?_ | refine gwD [] ?_); intro Q hQ hP; simp [hC, hY]; (first | refine hQ _ _ _ _ (by kernel_rfl) ?_ | refine hP _ _ (by kernel_rfl) fun _ => ?_); clear hQ hP Q) | apply gwB | apply gwT | apply gwK | apply gwE | apply gwG | apply gwL | simp only [blockG_exit] | (refine gwC ?_ ?_ <;> (intro hb; first | (cases hb; done) | skip)))
  have e3 : ∀ z, Int.bmod (wi z 3) 18446744073709551616 = wi z 3 - (if ng z then 18446744073709551616 else 0) := fun z => by
    have := wi_ge z 3; have := wi_lt z 3
    rw [Int.bmod_def]; unfold ng; simp only [decide_eq_true_eq]; split <;> split <;> omega
  refine GW_for (if cmpN a b 0 = 0 then if cmpN a b 1 = 0 then if cmpN a b 2 = 0 then 3 else 2 else 1 else 0) (wcmpSt a b) ?_ ?_ ?_
  · refine weakL _ 300 hC G0F (m0 := []) hC0 (by omega) ?_ ?_ ?_
    · simp [idsV, idsA, idsF, ids0, dom, cmpN]
    · simp [ids_lit, idsF, ids0, wb]
    · simp
  · intro i hi
    have : (i = 0 ∧ cmpN a b 0 = 0) ∨ (i = 1 ∧ cmpN a b 1 = 0) ∨ (i = 2 ∧ cmpN a b 2 = 0) := by (repeat' split at hi) <;> omega
    rcases this with ⟨rfl, h⟩ | ⟨rfl, h⟩ | ⟨rfl, h⟩ <;> unfold wcmpSt
    all_goals
      repeat' (first | apply gwS | simp only [wN, wM, Nat.reduceAdd, Nat.reduceMul] | ((first | refine gwR [] ?_ | refine gwD [] ?_); intro Q hQ hP; simp [hC, hY, h, wb]; (first | refine hQ _ _ _ _ (by kernel_rfl) ?_ | refine hP _ _ (by kernel_rfl) fun _ => ?_); clear hQ hP Q) | apply gwB | apply gwT | apply gwK | apply gwE | apply gwG | apply gwL | simp only [blockG_exit] | (refine gwC ?_ ?_ <;> (intro hb; first | (cases hb; done) | skip)))
    all_goals
      refine weakL _ 300 hC G0F (m0 := []) hC0 (by omega) ?_ ?_ ?_
      · simp [idsV, idsA, idsF, ids0, dom, cmpN]
      · simp [ids_lit, idsF, ids0, wb]
      · simp
  · have f1 := sz_w a
    have f2 := sz_w b
    have g1 := e3 a
    have g2 := e3 b
    have := wi_ge a 0; have := wi_lt a 0; have := wi_ge a 1; have := wi_lt a 1; have := wi_ge a 2; have := wi_lt a 2; have := wi_ge a 3; have := wi_lt a 3
    have := wi_ge b 0; have := wi_lt b 0; have := wi_ge b 1; have := wi_lt b 1; have := wi_ge b 2; have := wi_lt b 2; have := wi_ge b 3; have := wi_lt b 3
    have key : ∀ k, k = (if cmpN a b 0 = 0 then if cmpN a b 1 = 0 then if cmpN a b 2 = 0 then 3 else 2 else 1 else 0) → cmpN a b k = cmpI (sz a) (sz b) := fun k hk => by
      exact cmp_key a b k hk
    have hk := key _ rfl
    generalize hN : (if cmpN a b 0 = 0 then if cmpN a b 1 = 0 then if cmpN a b 2 = 0 then 3 else 2 else 1 else 0) = N at *
    have hc : cmpN a b N ≠ 0 ∨ N = 3 := by (repeat' split at hN) <;> subst hN <;> first | (left; assumption) | (right; rfl)
    by_cases hz : cmpN a b N = 0
    · have h3 : N = 3 := hc.resolve_left (fun h => h hz)
      subst h3
      unfold wcmpSt
      repeat' (first | apply gwS | simp only [wN, wM, Nat.reduceAdd, Nat.reduceMul] | ((first | refine gwR [] ?_ | refine gwD [] ?_); intro Q hQ hP; simp [hC, hY, hz, wb]; (first | refine hQ _ _ _ _ (by kernel_rfl) ?_ | refine hP _ _ (by kernel_rfl) fun _ => ?_); clear hQ hP Q) | apply gwB | apply gwT | apply gwK | apply gwE | apply gwG | apply gwL | simp only [blockG_exit] | (refine gwC ?_ ?_ <;> (intro hb; first | (cases hb; done) | skip)))
      refine ⟨.inr trivial, ?_⟩
      simp [Tryz.results44, ← hk, hz]
    · have hzb : (cmpN a b N == 0) = false := by simpa using hz
      unfold wcmpSt
      repeat' (first | apply gwS | simp only [wN, wM, Nat.reduceAdd, Nat.reduceMul] | ((first | refine gwR [] ?_ | refine gwD [] ?_); intro Q hQ hP; simp [hC, hY, hzb, wb]; (first | refine hQ _ _ _ _ (by kernel_rfl) ?_ | refine hP _ _ (by kernel_rfl) fun _ => ?_); clear hQ hP Q) | apply gwB | apply gwT | apply gwK | apply gwE | apply gwG | apply gwL | simp only [blockG_exit] | (refine gwC ?_ ?_ <;> (intro hb; first | (cases hb; done) | skip)))
      refine ⟨.inr trivial, ?_⟩
      simp [Tryz.results44, hk]
@[simp] theorem wCmp (a b : Int) (K : Value → Prop) : callK Tryz.prog G0 44 #[Value.agg #[.int .u64 (wi (a) 0), .int .u64 (wi (a) 1), .int .u64 (wi (a) 2), .int .u64 (wi (a) 3)], Value.agg #[.int .u64 (wi (b) 0), .int .u64 (wi (b) 1), .int .u64 (wi (b) 2), .int .u64 (wi (b) 3)]] K ↔ K (.int .i64 (cmpI (sz a) (sz b))) := callK_iff G0W (by kernel_rfl) (wcmp_ret a b)
@[simp] theorem wCmpz (a : Int) (K : Value → Prop) : callK Tryz.prog G0 44 #[Value.agg #[.int .u64 (wi (a) 0), .int .u64 (wi (a) 1), .int .u64 (wi (a) 2), .int .u64 (wi (a) 3)], .agg #[.int .u64 0, .int .u64 0, .int .u64 0, .int .u64 0]] K ↔ K (.int .i64 (cmpI (sz a) 0)) := by
  have := wCmp a 0 K
  have e : sz 0 = 0 := by decide
  rw [e] at this
  simpa using this
theorem wsign_ret (a : Int) : Ret Tryz.prog G0 83 #[wd a] (.int .i64 (cmpI (sz a) 0)) := by
  refine ret_of G0F Tryz.func83 rfl Tryz.call83 (by simp) (by simp) (by simp [Tryz.ntmps83]) ?_
  intro C hC hC0 hY
  repeat' (first | apply gwS | simp only [wN, wM, Nat.reduceAdd, Nat.reduceMul] | ((first | refine gwR [] ?_ | refine gwD [] ?_); intro Q hQ hP; simp [hC, hY]; (first | refine hQ _ _ _ _ (by kernel_rfl) ?_ | refine hP _ _ (by kernel_rfl) fun _ => ?_); clear hQ hP Q) | apply gwB | apply gwT | apply gwK | apply gwE | apply gwG | apply gwL | simp only [blockG_exit] | (refine gwC ?_ ?_ <;> (intro hb; first | (cases hb; done) | skip)))
  refine ⟨.inr trivial, ?_⟩
  simp [Tryz.results83]
@[simp] theorem wSign (a : Int) (K : Value → Prop) : callK Tryz.prog G0 83 #[Value.agg #[.int .u64 (wi (a) 0), .int .u64 (wi (a) 1), .int .u64 (wi (a) 2), .int .u64 (wi (a) 3)]] K ↔ K (.int .i64 (cmpI (sz a) 0)) := callK_iff G0W (by kernel_rfl) (wsign_ret a)
end Go.Gy
namespace Go.Gy
open Go Go.RowKit
theorem pow64_pos (i : Nat) : (0 : Int) < 2 ^ (64 * i) := Int.pow_pos (by decide)
theorem pow_succ64 (i : Nat) : (2 : Int) ^ (64 * (i + 1)) = 2 ^ (64 * i) * 18446744073709551616 := by
  rw [Nat.mul_add, Int.pow_add]; rfl
def wprow (A B : Int) (i : Nat) : Int := (A % 2 ^ (64 * i)) * B
def wpcar (A B : Int) (i k : Nat) : Int := (wprow A B i % 2 ^ (64 * (i + k)) + 2 ^ (64 * i) * wi A i * (B % 2 ^ (64 * k))) / 2 ^ (64 * (i + k))
def wpout (A B : Int) (i k j : Nat) : Int := if i ≤ j ∧ j < i + k then wi (wprow A B (i + 1)) j else wi (wprow A B i) j
theorem wprow_succ (A B : Int) (i : Nat) : wprow A B (i + 1) = wprow A B i + 2 ^ (64 * i) * wi A i * B := by
  unfold wprow wi
  rw [pow_succ64, emod_mul A _ _ (pow64_pos i) (by omega), Int.add_mul]
theorem wpcar_zero (A B : Int) (i : Nat) : wpcar A B i 0 = 0 := by
  unfold wpcar
  have h1 := Int.emod_lt_of_pos (wprow A B i) (pow64_pos (i + 0))
  have h2 := Int.emod_nonneg (wprow A B i) (b := 2 ^ (64 * (i + 0))) (by have := pow64_pos (i + 0); omega)
  simp only [Nat.mul_zero, Int.pow_zero, Int.emod_one, Int.mul_zero, Int.add_zero]
  exact Int.ediv_eq_zero_of_lt h2 h1
theorem wpcar_bd (A B : Int) (i k : Nat) : 0 ≤ wpcar A B i k ∧ wpcar A B i k < 18446744073709551616 := by
  unfold wpcar
  have hM : (2 : Int) ^ (64 * (i + k)) = 2 ^ (64 * i) * 2 ^ (64 * k) := by rw [Nat.mul_add, Int.pow_add]
  have p1 := pow64_pos i
  have p2 := pow64_pos k
  have p3 := pow64_pos (i + k)
  generalize hz : wprow A B i = z
  have h1 := Int.emod_lt_of_pos z p3
  have h2 := Int.emod_nonneg z (b := 2 ^ (64 * (i + k))) (by omega)
  have h3 := Int.emod_lt_of_pos B p2
  have h4 := Int.emod_nonneg B (b := 2 ^ (64 * k)) (by omega)
  have h5 := wi_ge A i
  have h6 := wi_lt A i
  have h7 : 0 ≤ 2 ^ (64 * i) * wi A i * (B % 2 ^ (64 * k)) := Int.mul_nonneg (Int.mul_nonneg (by omega) h5) h4
  have h8 : 2 ^ (64 * i) * wi A i * (B % 2 ^ (64 * k)) ≤ 2 ^ (64 * i) * 18446744073709551615 * 2 ^ (64 * k) :=
    Int.mul_le_mul (Int.mul_le_mul_of_nonneg_left (by omega) (by omega)) (by omega) h4 (Int.mul_nonneg (by omega) (by omega))
  have h9 : (2 : Int) ^ (64 * i) * 18446744073709551615 * 2 ^ (64 * k) = 18446744073709551615 * 2 ^ (64 * (i + k)) := by
    rw [hM, Int.mul_comm (2 ^ (64 * i)) 18446744073709551615, Int.mul_assoc]
  refine ⟨Int.ediv_nonneg (by omega) (by omega), Int.ediv_lt_of_lt_mul p3 (by omega)⟩
theorem wpcar_succ (A B : Int) (i k : Nat) : (wi (wprow A B i) (i + k) + wi A i * wi B k + wpcar A B i k) / 18446744073709551616 = wpcar A B i (k + 1) := by
  have hM : (2 : Int) ^ (64 * (i + k)) = 2 ^ (64 * i) * 2 ^ (64 * k) := by rw [Nat.mul_add, Int.pow_add]
  have p2 := pow64_pos k
  have p3 := pow64_pos (i + k)
  unfold wpcar
  rw [show i + (k + 1) = (i + k) + 1 by omega, pow_succ64, pow_succ64, emod_mul _ _ _ p3 (by omega), emod_mul B _ _ p2 (by omega)]
  generalize hz : wprow A B i = z
  unfold wi
  generalize hD : (2 : Int) ^ (64 * (i + k)) = M at *
  have e : z % M + M * (z / M % 18446744073709551616) + 2 ^ (64 * i) * (A / 2 ^ (64 * i) % 18446744073709551616) * (B % 2 ^ (64 * k) + 2 ^ (64 * k) * (B / 2 ^ (64 * k) % 18446744073709551616)) =
      (z % M + 2 ^ (64 * i) * (A / 2 ^ (64 * i) % 18446744073709551616) * (B % 2 ^ (64 * k))) + M * (z / M % 18446744073709551616 + A / 2 ^ (64 * i) % 18446744073709551616 * (B / 2 ^ (64 * k) % 18446744073709551616)) := by
    rw [hM]
    generalize (2 : Int) ^ (64 * i) = P
    generalize (2 : Int) ^ (64 * k) = Q
    generalize A / P % 18446744073709551616 = a
    generalize B / Q % 18446744073709551616 = b
    generalize B % Q = c
    generalize z % (P * Q) = u
    generalize z / (P * Q) % 18446744073709551616 = v
    have : P * a * (c + Q * b) = P * a * c + P * Q * (a * b) := by
      rw [Int.mul_add]
      congr 1
      rw [Int.mul_assoc P a, Int.mul_assoc P Q]
      congr 1
      rw [← Int.mul_assoc, ← Int.mul_assoc, Int.mul_comm a Q]
    rw [this, Int.mul_add]
    omega
  rw [e, ← Int.ediv_ediv_of_nonneg (Int.le_of_lt p3), Int.add_mul_ediv_left _ _ (by omega)]
  congr 1
  omega
theorem wpdig (A B : Int) (i k : Nat) : (wi (wprow A B i) (i + k) + wi A i * wi B k + wpcar A B i k) % 18446744073709551616 = wi (wprow A B (i + 1)) (i + k) := by
  have hM : (2 : Int) ^ (64 * (i + k)) = 2 ^ (64 * i) * 2 ^ (64 * k) := by rw [Nat.mul_add, Int.pow_add]
  have p3 := pow64_pos (i + k)
  rw [wprow_succ]
  unfold wpcar
  generalize hz : wprow A B i = z
  unfold wi
  generalize hD : (2 : Int) ^ (64 * (i + k)) = M at *
  have h1 := Int.emod_add_mul_ediv z M
  have h2 := Int.emod_add_mul_ediv B (2 ^ (64 * k))
  have h3 := Int.emod_add_mul_ediv (B / 2 ^ (64 * k)) 18446744073709551616
  have e : z + 2 ^ (64 * i) * (A / 2 ^ (64 * i) % 18446744073709551616) * B = (z % M + 2 ^ (64 * i) * (A / 2 ^ (64 * i) % 18446744073709551616) * (B % 2 ^ (64 * k))) +
      M * (z / M + A / 2 ^ (64 * i) % 18446744073709551616 * (B / 2 ^ (64 * k) % 18446744073709551616) + 18446744073709551616 * (A / 2 ^ (64 * i) % 18446744073709551616 * (B / 2 ^ (64 * k) / 18446744073709551616))) := by
    have hB : B = B % 2 ^ (64 * k) + 2 ^ (64 * k) * (B / 2 ^ (64 * k) % 18446744073709551616 + 18446744073709551616 * (B / 2 ^ (64 * k) / 18446744073709551616)) := by rw [h3]; omega
    generalize B / 2 ^ (64 * k) % 18446744073709551616 = b at *
    generalize B / 2 ^ (64 * k) / 18446744073709551616 = h at *
    generalize B % 2 ^ (64 * k) = c at *
    rw [hM]
    rw [hM] at h1
    generalize (2 : Int) ^ (64 * i) = P at *
    generalize (2 : Int) ^ (64 * k) = Q at *
    generalize A / P % 18446744073709551616 = a
    rw [hB]
    have : P * a * (c + Q * (b + 18446744073709551616 * h)) = P * a * c + P * Q * (a * b) + P * Q * (18446744073709551616 * (a * h)) := by
      rw [Int.mul_add, Int.mul_add Q, Int.mul_add]
      have e1 : P * a * (Q * b) = P * Q * (a * b) := by
        rw [Int.mul_assoc P a, Int.mul_assoc P Q]; congr 1; rw [← Int.mul_assoc, ← Int.mul_assoc, Int.mul_comm a Q]
      have e2 : P * a * (Q * (18446744073709551616 * h)) = P * Q * (18446744073709551616 * (a * h)) := by
        rw [Int.mul_assoc P a, Int.mul_assoc P Q]; congr 1
        rw [Int.mul_left_comm a Q]; congr 1
        rw [Int.mul_left_comm]
      rw [e1, e2]; omega
    rw [this, Int.mul_add, Int.mul_add]
    omega
  rw [e, Int.add_mul_ediv_left _ _ (by omega)]
  omega
theorem wprow_lt (A B : Int) (i : Nat) (h0 : 0 ≤ B) (h1 : B < 2 ^ (64 * 4)) : 0 ≤ wprow A B i ∧ wprow A B i < 2 ^ (64 * (i + 4)) := by
  have p1 := pow64_pos i
  have h2 := Int.emod_nonneg A (b := 2 ^ (64 * i)) (by omega)
  have h3 := Int.emod_lt_of_pos A p1
  unfold wprow
  refine ⟨Int.mul_nonneg h2 h0, ?_⟩
  rw [Nat.mul_add, Int.pow_add]
  generalize (2 : Int) ^ (64 * i) = P at *
  generalize (2 : Int) ^ (64 * 4) = Q at *
  have h4 : A % P * B ≤ A % P * Q := Int.mul_le_mul_of_nonneg_left (by omega) h2
  have h5 : A % P * Q < P * Q := Int.mul_lt_mul_of_pos_right h3 (by omega)
  omega
theorem wprow_top (A B : Int) (i : Nat) (h0 : 0 ≤ B) (h1 : B < 2 ^ (64 * 4)) : wpcar A B i 4 = wi (wprow A B (i + 1)) (i + 4) := by
  have hb := wpcar_bd A B i 4
  have hz := wprow_lt A B i h0 h1
  unfold wpcar at *
  rw [Int.emod_eq_of_lt hz.1 hz.2, Int.emod_eq_of_lt h0 h1, ← wprow_succ] at *
  unfold wi
  omega
theorem wprow_hi (A B : Int) (i j : Nat) (h0 : 0 ≤ B) (h1 : B < 2 ^ (64 * 4)) (hj : i + 4 ≤ j) : wi (wprow A B i) j = 0 := by
  have hz := wprow_lt A B i h0 h1
  have e : (2 : Int) ^ (64 * j) = 2 ^ (64 * (i + 4)) * 2 ^ (64 * (j - (i + 4))) := by rw [← Int.pow_add]; congr 1; omega
  have p := pow64_pos (j - (i + 4))
  unfold wi
  rw [Int.ediv_eq_zero_of_lt hz.1]
  · rfl
  · rw [e]
    have : (2 : Int) ^ (64 * (i + 4)) * 1 ≤ 2 ^ (64 * (i + 4)) * 2 ^ (64 * (j - (i + 4))) := Int.mul_le_mul_of_nonneg_left (by omega) (by have := pow64_pos (i + 4); omega)
    omega
theorem wprow_low (A B : Int) (i j : Nat) (hj : j < i) : wi (wprow A B (i + 1)) j = wi (wprow A B i) j := by
  rw [wprow_succ]
  unfold wi
  have e : (2 : Int) ^ (64 * i) = 2 ^ (64 * j) * (18446744073709551616 * 2 ^ (64 * (i - j - 1))) := by
    rw [show (18446744073709551616 : Int) = 2 ^ 64 by rfl, ← Int.pow_add, ← Int.pow_add]; congr 1; omega
  rw [e, Int.mul_assoc, Int.mul_assoc (2 ^ (64 * j)), Int.mul_assoc 18446744073709551616, Int.add_mul_ediv_left _ _ (by have := pow64_pos j; omega)]
  omega
theorem wpout_step (A B : Int) (i k : Nat) : ∀ j, upd (wpout A B i k) (i + k) (wi (wprow A B (i + 1)) (i + k)) j = wpout A B i (k + 1) j := fun j => by
  unfold upd wpout
  by_cases e : j = i + k
  · subst e; simp
  · rw [if_neg e]
    by_cases h : i ≤ j ∧ j < i + k
    · rw [if_pos h, if_pos (by omega)]
    · rw [if_neg h, if_neg (by omega)]
theorem wpout_end (A B : Int) (i : Nat) (h0 : 0 ≤ B) (h1 : B < 2 ^ (64 * 4)) : ∀ j, upd (wpout A B i 4) (i + 4) (wpcar A B i 4) j = wi (wprow A B (i + 1)) j := fun j => by
  unfold upd wpout
  by_cases e : j = i + 4
  · subst e; rw [if_pos rfl, wprow_top A B i h0 h1]
  · rw [if_neg e]
    by_cases h : i ≤ j ∧ j < i + 4
    · rw [if_pos h]
    · rw [if_neg h]
      by_cases hj : j < i
      · exact (wprow_low A B i j hj).symm
      · rw [wprow_hi A B i j h0 h1 (by omega), wprow_hi A B (i + 1) j h0 h1 (by omega)]
@[simp] theorem wpout_at (A B : Int) (i k : Nat) : wpout A B i k (i + k) = wi (wprow A B i) (i + k) := by unfold wpout; rw [if_neg (by omega)]

theorem wstep (x y d c : Int) (hx : 0 ≤ x ∧ x < 18446744073709551616) (hy : 0 ≤ y ∧ y < 18446744073709551616) (hd : 0 ≤ d ∧ d < 18446744073709551616) (hc : 0 ≤ c ∧ c < 18446744073709551616) :
    ((x * y % 18446744073709551616 + d) % 18446744073709551616 + c) % 18446744073709551616 = (d + x * y + c) % 18446744073709551616 ∧
    ((x * y / 18446744073709551616 + (x * y % 18446744073709551616 + d) / 18446744073709551616) % 18446744073709551616 + ((x * y % 18446744073709551616 + d) % 18446744073709551616 + c) / 18446744073709551616) % 18446744073709551616 = (d + x * y + c) / 18446744073709551616 := by
  have h1 : 0 ≤ x * y := Int.mul_nonneg hx.1 hy.1
  have h2 : x * y ≤ 18446744073709551615 * 18446744073709551615 := Int.mul_le_mul (by omega) (by omega) hy.1 (by omega)
  generalize x * y = p at *
  omega
end Go.Gy
namespace Go.Gy
set_option linter.unusedSimpArgs false
set_option linter.unusedVariables false
open Go Go.RowKit Go.Proofs
@[simp] theorem idsV_fa (D : Nat → Prop) (n : Nat) (k : IntKind) (f : Nat → Int) : idsV D (.agg (fa n k f)) ↔ True := by
  refine ⟨fun _ => trivial, fun _ x hx => ?_⟩
  obtain ⟨m, rfl⟩ := fa_mem hx
  trivial
theorem and_low (z : Int) (h0 : 0 ≤ z) (h1 : z < 18446744073709551616) : bitI .and .u64 z 4294967295 = z % 4294967296 := by
  rw [← and_low32 z h0 h1]; rfl
theorem mul64_ret (x y : Int) (hx0 : 0 ≤ x) (hx : x < 18446744073709551616) (hy0 : 0 ≤ y) (hy : y < 18446744073709551616) : Ret Tryz.prog G0 55 #[.int .u64 x, .int .u64 y] (.tuple #[.int .u64 (x * y / 18446744073709551616), .int .u64 (x * y % 18446744073709551616)]) := by
  refine ret_of G0F Tryz.func55 rfl Tryz.call55 (by simp) (by simp) (by simp [Tryz.ntmps55]) ?_
  intro C hC hC0 hY
  have f32 : ∀ z : Int, z.fdiv 4294967296 = z / 4294967296 := fun z => Int.fdiv_eq_ediv_of_nonneg z (by omega)
  have a1 := and_low x hx0 hx
  have a2 := and_low y hy0 hy
  have a3 : ∀ z : Int, bitI .and .u64 (z % 18446744073709551616) 4294967295 = z % 18446744073709551616 % 4294967296 := fun z => and_low _ (by omega) (by omega)
  repeat' (first | apply gwS | simp only [wN, wM, Nat.reduceAdd, Nat.reduceMul] | ((first | refine gwR [] ?_ | refine gwD [] ?_); intro Q hQ hP; simp [hC, hY, f32, a1, a2, a3]; (first | refine hQ _ _ _ _ (by kernel_rfl) ?_ | refine hP _ _ (by kernel_rfl) fun _ => ?_); clear hQ hP Q) | apply gwB | apply gwT | apply gwK | apply gwE | apply gwG | apply gwL | simp only [blockG_exit] | (refine gwC ?_ ?_ <;> (intro hb; first | (cases hb; done) | skip)))
  refine ⟨.inr trivial, ?_⟩
  have := mul64_arith x y hx0 hx hy0 hy
  simpa [Tryz.results55] using this
@[simp] theorem mul64 (x y : Int) (hx0 : 0 ≤ x) (hx : x < 18446744073709551616) (hy0 : 0 ≤ y) (hy : y < 18446744073709551616) (K : Value → Prop) : callK Tryz.prog G0 55 #[.int .u64 x, .int .u64 y] K ↔ K (.tuple #[.int .u64 (x * y / 18446744073709551616), .int .u64 (x * y % 18446744073709551616)]) := callK_iff G0W (by kernel_rfl) (mul64_ret x y hx0 hx hy0 hy)
theorem wi_mod (z y : Int) (k : Nat) (h : z % 115792089237316195423570985008687907853269984665640564039457584007913129639936 = y % 115792089237316195423570985008687907853269984665640564039457584007913129639936) (hk : k < 4) : wi z k = wi y k := by
  have : k = 0 ∨ k = 1 ∨ k = 2 ∨ k = 3 := by omega
  rcases this with rfl | rfl | rfl | rfl <;> simp only [wi] <;> omega
theorem wum_p (z : Int) (h : ng z = true) (k : Nat) (hk : k < 4) : wi (-z) k = wi (um z) k := wi_mod _ _ _ (by
  rw [ng_sz] at h; simp at h; have := sz_mod z; unfold um; rw [if_pos h]; omega) hk
theorem wum_m (z : Int) (h : ng z = false) (k : Nat) (hk : k < 4) : wi z k = wi (um z) k := wi_mod _ _ _ (by
  rw [ng_sz] at h; simp at h; have := sz_mod z; unfold um; rw [if_neg (by omega)]; omega) hk
theorem wn_bd (A B : Int) (i k : Nat) : 0 ≤ wi A i * wi B k ∧ 0 ≤ wi A i * wi B k % 18446744073709551616 ∧ 0 ≤ (wi A i * wi B k + wi (wprow A B i) (i + k)) % 18446744073709551616 := by
  have h1 := wi_ge A i; have h2 := wi_ge B k
  exact ⟨Int.mul_nonneg h1 h2, Int.emod_nonneg _ (by omega), Int.emod_nonneg _ (by omega)⟩
theorem wmodS (A B : Int) (i k : Nat) : (wi A i * wi B k + wi (wprow A B i) (i + k) + wpcar A B i k) % 18446744073709551616 = wi (wprow A B (i + 1)) (i + k) := by
  rw [← wpdig A B i k]; congr 1; omega
theorem wdivS (A B : Int) (i k : Nat) : (wi A i * wi B k / 18446744073709551616 + (wi A i * wi B k % 18446744073709551616 + wi (wprow A B i) (i + k)) / 18446744073709551616 + ((wi A i * wi B k + wi (wprow A B i) (i + k)) % 18446744073709551616 + wpcar A B i k) / 18446744073709551616) % 18446744073709551616 = wpcar A B i (k + 1) := by
  have h := (wstep (wi A i) (wi B k) (wi (wprow A B i) (i + k)) (wpcar A B i k) ⟨wi_ge _ _, wi_lt _ _⟩ ⟨wi_ge _ _, wi_lt _ _⟩ ⟨wi_ge _ _, wi_lt _ _⟩ (wpcar_bd A B i k)).2
  rw [← wpcar_succ, ← h]
  simp
def mwSt (q : Nat) (mi : Bool) (A B : Int) (i : Nat) : GS :=
  ⟨tsL [(2, .pointer (some ⟨200, 0, none⟩)), (3, .pointer (some ⟨208, 0, none⟩)), (4, .pointer (some ⟨216, 0, none⟩)), (6, .bool mi), (7, .pointer (some ⟨q, 0, none⟩)), (40, .agg (fa 4 .u64 (wi A))), (41, .int .i64 i)],
   hpL G0 [(200, ⟨fa 4 .u64 (wi A), .ty 30⟩), (208, ⟨fa 4 .u64 (wi B), .ty 30⟩), (216, ⟨fa 4 .u64 fun _ => 0, .ty 30⟩), (q, ⟨fa 8 .u64 (wi (wprow A B i)), .ty 77⟩)], 600, 0⟩
def mwSt2 (q : Nat) (mi : Bool) (A B : Int) (i k : Nat) : GS :=
  ⟨tsL [(2, .pointer (some ⟨200, 0, none⟩)), (3, .pointer (some ⟨208, 0, none⟩)), (4, .pointer (some ⟨216, 0, none⟩)), (6, .bool mi), (7, .pointer (some ⟨q, 0, none⟩)), (40, .agg (fa 4 .u64 (wi A))), (41, .int .i64 i),
      (8, .int .i64 i), (9, .int .u64 (wi A i)), (10, .int .u64 (wpcar A B i k)), (45, .agg (fa 4 .u64 (wi B))), (46, .int .i64 k)],
   hpL G0 [(200, ⟨fa 4 .u64 (wi A), .ty 30⟩), (208, ⟨fa 4 .u64 (wi B), .ty 30⟩), (216, ⟨fa 4 .u64 fun _ => 0, .ty 30⟩), (q, ⟨fa 8 .u64 (wpout A B i k), .ty 77⟩)], 600, 0⟩
theorem or_zero {x y : Int} (hx0 : 0 ≤ x) (hx : x < 18446744073709551616) (hy0 : 0 ≤ y) (hy : y < 18446744073709551616) : (bitI .or .u64 x y = 0 ↔ x = 0 ∧ y = 0) ∧ 0 ≤ bitI .or .u64 x y ∧ bitI .or .u64 x y < 18446744073709551616 := by
  have e : bitI .or .u64 x y = ((BitVec.ofInt 64 x ||| BitVec.ofInt 64 y : BitVec 64).toNat : Int) % 18446744073709551616 := by
    unfold bitI
    show IntKind.u64.wrap ((BitVec.ofInt 64 x ||| BitVec.ofInt 64 y : BitVec 64).toNat : Int) = _
    rw [wrap_u64]
  have hx' : (BitVec.ofInt 64 x).toNat = x.toNat := by
    rw [BitVec.toNat_ofInt]; congr 1; exact Int.emod_eq_of_lt hx0 hx
  have hy' : (BitVec.ofInt 64 y).toNat = y.toNat := by
    rw [BitVec.toNat_ofInt]; congr 1; exact Int.emod_eq_of_lt hy0 hy
  have hb := (BitVec.ofInt 64 x ||| BitVec.ofInt 64 y).isLt
  rw [e]
  refine ⟨?_, Int.emod_nonneg _ (by omega), Int.emod_lt_of_pos _ (by omega)⟩
  rw [Int.emod_eq_of_lt (by omega) (by omega), BitVec.toNat_or, hx', hy']
  constructor
  · intro h
    have h1 : x.toNat ||| y.toNat = 0 := by omega
    have := Nat.or_eq_zero_iff.1 h1
    omega
  · rintro ⟨rfl, rfl⟩; rfl
theorem wi_shift (D : Int) (j : Nat) (h : 4 ≤ j := by omega) : wi D j = wi (D / 115792089237316195423570985008687907853269984665640564039457584007913129639936) (j - 4) := by
  unfold wi
  have e : 64 * j = 64 * 4 + 64 * (j - 4) := by omega
  rw [e, Int.pow_add, ← Int.ediv_ediv_of_nonneg (Int.le_of_lt (pow64_pos 4))]
  rfl
def ovD (D : Int) : Bool := decide (115792089237316195423570985008687907853269984665640564039457584007913129639936 ≤ D)
def orW (D : Int) : Int := bitI .or .u64 (bitI .or .u64 (bitI .or .u64 (wi D 4) (wi D 5)) (wi D 6)) (wi D 7)
theorem or_ov (D : Int) (h0 : 0 ≤ D) (h1 : D < 115792089237316195423570985008687907853269984665640564039457584007913129639936 * 115792089237316195423570985008687907853269984665640564039457584007913129639936) :
    (!orW D == 0) = ovD D := by
  unfold orW
  have o1 := or_zero (wi_ge D 4) (wi_lt D 4) (wi_ge D 5) (wi_lt D 5)
  have o2 := or_zero o1.2.1 o1.2.2 (wi_ge D 6) (wi_lt D 6)
  have o3 := or_zero o2.2.1 o2.2.2 (wi_ge D 7) (wi_lt D 7)
  rw [Bool.eq_iff_iff]
  simp only [Bool.not_eq_true', beq_eq_false_iff_ne, ne_eq, ovD, decide_eq_true_eq]
  rw [o3.1, o2.1, o1.1, wi_shift D 4, wi_shift D 5, wi_shift D 6, wi_shift D 7]
  have hE : 0 ≤ D / 115792089237316195423570985008687907853269984665640564039457584007913129639936 ∧ D / 115792089237316195423570985008687907853269984665640564039457584007913129639936 < 115792089237316195423570985008687907853269984665640564039457584007913129639936 := ⟨by omega, by omega⟩
  have hD : 115792089237316195423570985008687907853269984665640564039457584007913129639936 ≤ D ↔ D / 115792089237316195423570985008687907853269984665640564039457584007913129639936 ≠ 0 := by omega
  rw [hD]
  generalize D / 115792089237316195423570985008687907853269984665640564039457584007913129639936 = E at *
  simp only [wi]
  omega
set_option maxHeartbeats 2000000 in
theorem wmul_ret (a b : Int) : Ret Tryz.prog G0 26 #[wd a, wd b] (.tuple #[wd (sz a * sz b), .bool (mulO a b)]) := by
  refine ret_of G0F Tryz.func26 rfl Tryz.call26 (by simp) (by simp) (by simp [Tryz.ntmps26]) ?_
  intro C hC hC0 hY
  have hA := um_bd a
  have hB := um_bd b
  have hB0 : 0 ≤ um b := hB.1
  have hB1 : um b < 2 ^ (64 * 4) := by have := hB.2; omega
  obtain ⟨D, hD⟩ : ∃ D, um a * um b = D := ⟨_, rfl⟩
  have eD : wprow (um a) (um b) 4 = D := by rw [← hD]; unfold wprow; rw [Int.emod_eq_of_lt (by omega) (by omega)]
  have hbd : 0 ≤ D ∧ D ≤ 57896044618658097711785492504343953926634992332820282019728792003956564819968 * 57896044618658097711785492504343953926634992332820282019728792003956564819968 := by
    rw [← hD]
    exact ⟨Int.mul_nonneg hA.1 hB.1, Int.mul_le_mul hA.2 hB.2 hB.1 (by omega)⟩
  have hor := or_ov D hbd.1 (by have := hbd.2; omega)
  have hs1 := prod_same a b
  have hs2 := prod_other a b
  rw [hD] at hs1 hs2
  cases ha : ng a <;> cases hq : ng b
  all_goals
    repeat' (first | apply gwS | simp only [wN, wM, Nat.reduceAdd, Nat.reduceMul] | ((first | refine gwR [] ?_ | refine gwD [] ?_); intro Q hQ hP; simp [hC, hY, ha, hq]; (first | refine hQ _ _ _ _ (by kernel_rfl) ?_ | refine hP _ _ (by kernel_rfl) fun _ => ?_); clear hQ hP Q) | apply gwB | apply gwT | apply gwK | apply gwE | apply gwG | apply gwL | simp only [blockG_exit] | (refine gwC ?_ ?_ <;> (intro hb; first | (cases hb; done) | skip)))
  · have hn : (ng a == ng b) = true := by rw [ha, hq]; rfl
    refine GW_for 4 (mwSt 312 false (um a) (um b)) ?_ ?_ ?_
    · have e1 := wum_m a ha
      have e2 := wum_m b hq
      refine weakL _ 600 hC G0F (m0 := []) hC0 (by omega) ?_ ?_ ?_
      · simp [dom, fa_4, e1]
      · simp [fa_ids, fa_4, fa_8, e1, e2, wprow, Int.emod_one, wi_zero]
      · simp
    · intro i hi
      have hi' : (i : Int) < 4 := by omega
      have hz : (0 : Int) ≤ i := by omega
      have hs : Int.bmod ((i : Int) + 1) 18446744073709551616 = ((i + 1 : Nat) : Int) := by rw [bm (by omega) (by omega)]; rfl
      unfold mwSt
      repeat' (first | apply gwS | simp only [wN, wM, Nat.reduceAdd, Nat.reduceMul] | ((first | refine gwR [] ?_ | refine gwD [] ?_); intro Q hQ hP; simp [hC, hY, hi, hi', hz, hs, fa_get]; (first | refine hQ _ _ _ _ (by kernel_rfl) ?_ | refine hP _ _ (by kernel_rfl) fun _ => ?_); clear hQ hP Q) | apply gwB | apply gwT | apply gwK | apply gwE | apply gwG | apply gwL | simp only [blockG_exit] | (refine gwC ?_ ?_ <;> (intro hb; first | (cases hb; done) | skip)))
      refine GW_for 4 (mwSt2 312 false (um a) (um b) i) ?_ ?_ ?_
      · refine weakL _ 600 hC G0F (m0 := []) hC0 (by omega) ?_ ?_ ?_
        · simp [dom, wpcar_zero]
        · have e : fa 8 .u64 (wpout (um a) (um b) i 0) = fa 8 .u64 (wi (wprow (um a) (um b) i)) := fa_congr fun j _ => by unfold wpout; rw [if_neg (by omega)]
          simp [e, fa_ids]
        · simp
      · intro k hk
        have hk' : (k : Int) < 4 := by omega
        have hkz : (0 : Int) ≤ k := by omega
        have hs2 : Int.bmod ((k : Int) + 1) 18446744073709551616 = ((k + 1 : Nat) : Int) := by rw [bm (by omega) (by omega)]; rfl
        have hik : Int.bmod ((i : Int) + k) 18446744073709551616 = ((i + k : Nat) : Int) := by rw [bm (by omega) (by omega)]; rfl
        have hik2 : i + k < 8 := by omega
        have hik3 : (i : Int) + k < 8 := by omega
        have hik4 : (0 : Int) ≤ (i : Int) + k := by omega
        have hik5 : ((i : Int) + k).toNat = i + k := by omega
        have hik6 : (i : Int) + k ≤ 7 := by omega
        have hik7 : i + k ≤ 7 := by omega
        have hn := wn_bd (um a) (um b) i k
        have hc := wpcar_bd (um a) (um b) i k
        unfold mwSt2
        repeat' (first | apply gwS | simp only [wN, wM, Nat.reduceAdd, Nat.reduceMul] | ((first | refine gwR [] ?_ | refine gwD [] ?_); intro Q hQ hP; simp [hC, hY, hi, hi', hz, hk, hk', hkz, hik, hik2, hik3, hik4, hik5, hik6, hik7, hs2, fa_get, fa_set, wi_ge, wi_lt, hn.1, hn.2.1, hn.2.2, hc.1]; (first | refine hQ _ _ _ _ (by kernel_rfl) ?_ | refine hP _ _ (by kernel_rfl) fun _ => ?_); clear hQ hP Q) | apply gwB | apply gwT | apply gwK | apply gwE | apply gwG | apply gwL | simp only [blockG_exit] | (refine gwC ?_ ?_ <;> (intro hb; first | (cases hb; done) | skip)))
        refine weakL _ 600 hC G0F (m0 := []) hC0 (by omega) ?_ ?_ ?_
        · simp [dom, hs2, wdivS]
        · have e : fa 8 .u64 (upd (wpout (um a) (um b) i k) (i + k) (wi (wprow (um a) (um b) (i + 1)) (i + k))) = fa 8 .u64 (wpout (um a) (um b) i (k + 1)) := fa_congr fun j _ => wpout_step (um a) (um b) i k j
          simp [fa_ids, wmodS, e]
        · simp
      · have hi8 : Int.bmod ((i : Int) + 4) 18446744073709551616 = (i : Int) + 4 := bm (by omega) (by omega)
        have hi9 : (0 : Int) ≤ (i : Int) + 4 := by omega
        have hi10 : ((i : Int) + 4).toNat = i + 4 := by omega
        have hi11 : (i : Int) + 4 < 8 := by omega
        have hi12 : (i : Int) ≤ 3 := by omega
        have hi14 : i ≤ 3 := by omega
        have hi13 : i + 4 < 8 := by omega
        unfold mwSt2
        repeat' (first | apply gwS | simp only [wN, wM, Nat.reduceAdd, Nat.reduceMul] | ((first | refine gwR [] ?_ | refine gwD [] ?_); intro Q hQ hP; simp [hC, hY, hi, hi', hz, hs, hi8, hi9, hi10, hi11, hi12, hi13, hi14, fa_set]; (first | refine hQ _ _ _ _ (by kernel_rfl) ?_ | refine hP _ _ (by kernel_rfl) fun _ => ?_); clear hQ hP Q) | apply gwB | apply gwT | apply gwK | apply gwE | apply gwG | apply gwL | simp only [blockG_exit] | (refine gwC ?_ ?_ <;> (intro hb; first | (cases hb; done) | skip)))
        refine weakL _ 600 hC G0F (m0 := []) hC0 (by omega) ?_ ?_ ?_
        · simp [dom, hs]
        · have e : fa 8 .u64 (upd (wpout (um a) (um b) i 4) (i + 4) (wpcar (um a) (um b) i 4)) = fa 8 .u64 (wi (wprow (um a) (um b) (i + 1))) := fa_congr fun j _ => wpout_end (um a) (um b) i hB0 hB1 j
          simp [fa_ids, e]
        · simp
    · unfold mwSt
      rw [eD]
      by_cases hx : orW D = 0
      · have hov : ovD D = false := by rw [← hor]; simp [hx]
        unfold orW at hx
        repeat' (first | apply gwS | simp only [wN, wM, Nat.reduceAdd, Nat.reduceMul] | ((first | refine gwR [] ?_ | refine gwD [] ?_); intro Q hQ hP; simp [hC, hY, fa_8, fa_4, hx]; (first | refine hQ _ _ _ _ (by kernel_rfl) ?_ | refine hP _ _ (by kernel_rfl) fun _ => ?_); clear hQ hP Q) | apply gwB | apply gwT | apply gwK | apply gwE | apply gwG | apply gwL | simp only [blockG_exit] | (refine gwC ?_ ?_ <;> (intro hb; first | (cases hb; done) | skip)))
        refine ⟨.inr trivial, ?_⟩
        rw [ovD] at hov
        simp [Tryz.results26, hs1 hn, mulO, hx]
        rw [Bool.eq_iff_iff]
        simp [ng_sz]
        have h3 := sz_small D hbd.1 (by simpa using hov)
        simp at hov
        omega
      · have hov : ovD D = true := by rw [← hor]; simp [hx]
        unfold orW at hx
        have hx2 : (bitI .or .u64 (bitI .or .u64 (bitI .or .u64 (wi D 4) (wi D 5)) (wi D 6)) (wi D 7) == 0) = false := by simpa using hx
        have hx3 : (bitI .or .u64 (bitI .or .u64 (bitI .or .u64 (wi D 4) (wi D 5)) (wi D 6)) (wi D 7) != 0) = true := by simpa using hx
        repeat' (first | apply gwS | simp only [wN, wM, Nat.reduceAdd, Nat.reduceMul] | ((first | refine gwR [] ?_ | refine gwD [] ?_); intro Q hQ hP; simp [hC, hY, fa_8, fa_4, hx, hx2, hx3]; (first | refine hQ _ _ _ _ (by kernel_rfl) ?_ | refine hP _ _ (by kernel_rfl) fun _ => ?_); clear hQ hP Q) | apply gwB | apply gwT | apply gwK | apply gwE | apply gwG | apply gwL | simp only [blockG_exit] | (refine gwC ?_ ?_ <;> (intro hb; first | (cases hb; done) | skip)))
        refine ⟨.inr trivial, ?_⟩
        rw [ovD] at hov
        simp [Tryz.results26, hs1 hn, mulO, hx]
        simp at hov
        omega
  · have hn : (ng a == ng b) = false := by rw [ha, hq]; rfl
    refine GW_for 4 (mwSt 360 true (um a) (um b)) ?_ ?_ ?_
    · have e1 := wum_m a ha
      have e2 := wum_p b hq
      refine weakL _ 600 hC G0F (m0 := []) hC0 (by omega) ?_ ?_ ?_
      · simp [dom, fa_4, e1]
      · simp [fa_ids, fa_4, fa_8, e1, e2, wprow, Int.emod_one, wi_zero]
      · simp
    · intro i hi
      have hi' : (i : Int) < 4 := by omega
      have hz : (0 : Int) ≤ i := by omega
      have hs : Int.bmod ((i : Int) + 1) 18446744073709551616 = ((i + 1 : Nat) : Int) := by rw [bm (by omega) (by omega)]; rfl
      unfold mwSt
      repeat' (first | apply gwS | simp only [wN, wM, Nat.reduceAdd, Nat.reduceMul] | ((first | refine gwR [] ?_ | refine gwD [] ?_); intro Q hQ hP; simp [hC, hY, hi, hi', hz, hs, fa_get]; (first | refine hQ _ _ _ _ (by kernel_rfl) ?_ | refine hP _ _ (by kernel_rfl) fun _ => ?_); clear hQ hP Q) | apply gwB | apply gwT | apply gwK | apply gwE | apply gwG | apply gwL | simp only [blockG_exit] | (refine gwC ?_ ?_ <;> (intro hb; first | (cases hb; done) | skip)))
      refine GW_for 4 (mwSt2 360 true (um a) (um b) i) ?_ ?_ ?_
      · refine weakL _ 600 hC G0F (m0 := []) hC0 (by omega) ?_ ?_ ?_
        · simp [dom, wpcar_zero]
        · have e : fa 8 .u64 (wpout (um a) (um b) i 0) = fa 8 .u64 (wi (wprow (um a) (um b) i)) := fa_congr fun j _ => by unfold wpout; rw [if_neg (by omega)]
          simp [e, fa_ids]
        · simp
      · intro k hk
        have hk' : (k : Int) < 4 := by omega
        have hkz : (0 : Int) ≤ k := by omega
        have hs2 : Int.bmod ((k : Int) + 1) 18446744073709551616 = ((k + 1 : Nat) : Int) := by rw [bm (by omega) (by omega)]; rfl
        have hik : Int.bmod ((i : Int) + k) 18446744073709551616 = ((i + k : Nat) : Int) := by rw [bm (by omega) (by omega)]; rfl
        have hik2 : i + k < 8 := by omega
        have hik3 : (i : Int) + k < 8 := by omega
        have hik4 : (0 : Int) ≤ (i : Int) + k := by omega
        have hik5 : ((i : Int) + k).toNat = i + k := by omega
        have hik6 : (i : Int) + k ≤ 7 := by omega
        have hik7 : i + k ≤ 7 := by omega
        have hn := wn_bd (um a) (um b) i k
        have hc := wpcar_bd (um a) (um b) i k
        unfold mwSt2
        repeat' (first | apply gwS | simp only [wN, wM, Nat.reduceAdd, Nat.reduceMul] | ((first | refine gwR [] ?_ | refine gwD [] ?_); intro Q hQ hP; simp [hC, hY, hi, hi', hz, hk, hk', hkz, hik, hik2, hik3, hik4, hik5, hik6, hik7, hs2, fa_get, fa_set, wi_ge, wi_lt, hn.1, hn.2.1, hn.2.2, hc.1]; (first | refine hQ _ _ _ _ (by kernel_rfl) ?_ | refine hP _ _ (by kernel_rfl) fun _ => ?_); clear hQ hP Q) | apply gwB | apply gwT | apply gwK | apply gwE | apply gwG | apply gwL | simp only [blockG_exit] | (refine gwC ?_ ?_ <;> (intro hb; first | (cases hb; done) | skip)))
        refine weakL _ 600 hC G0F (m0 := []) hC0 (by omega) ?_ ?_ ?_
        · simp [dom, hs2, wdivS]
        · have e : fa 8 .u64 (upd (wpout (um a) (um b) i k) (i + k) (wi (wprow (um a) (um b) (i + 1)) (i + k))) = fa 8 .u64 (wpout (um a) (um b) i (k + 1)) := fa_congr fun j _ => wpout_step (um a) (um b) i k j
          simp [fa_ids, wmodS, e]
        · simp
      · have hi8 : Int.bmod ((i : Int) + 4) 18446744073709551616 = (i : Int) + 4 := bm (by omega) (by omega)
        have hi9 : (0 : Int) ≤ (i : Int) + 4 := by omega
        have hi10 : ((i : Int) + 4).toNat = i + 4 := by omega
        have hi11 : (i : Int) + 4 < 8 := by omega
        have hi12 : (i : Int) ≤ 3 := by omega
        have hi14 : i ≤ 3 := by omega
        have hi13 : i + 4 < 8 := by omega
        unfold mwSt2
        repeat' (first | apply gwS | simp only [wN, wM, Nat.reduceAdd, Nat.reduceMul] | ((first | refine gwR [] ?_ | refine gwD [] ?_); intro Q hQ hP; simp [hC, hY, hi, hi', hz, hs, hi8, hi9, hi10, hi11, hi12, hi13, hi14, fa_set]; (first | refine hQ _ _ _ _ (by kernel_rfl) ?_ | refine hP _ _ (by kernel_rfl) fun _ => ?_); clear hQ hP Q) | apply gwB | apply gwT | apply gwK | apply gwE | apply gwG | apply gwL | simp only [blockG_exit] | (refine gwC ?_ ?_ <;> (intro hb; first | (cases hb; done) | skip)))
        refine weakL _ 600 hC G0F (m0 := []) hC0 (by omega) ?_ ?_ ?_
        · simp [dom, hs]
        · have e : fa 8 .u64 (upd (wpout (um a) (um b) i 4) (i + 4) (wpcar (um a) (um b) i 4)) = fa 8 .u64 (wi (wprow (um a) (um b) (i + 1))) := fa_congr fun j _ => wpout_end (um a) (um b) i hB0 hB1 j
          simp [fa_ids, e]
        · simp
    · unfold mwSt
      rw [eD]
      by_cases hx : orW D = 0
      · have hov : ovD D = false := by rw [← hor]; simp [hx]
        unfold orW at hx
        by_cases hzz : sz D = 0
        · have hw := words_z D hzz
          repeat' (first | apply gwS | simp only [wN, wM, Nat.reduceAdd, Nat.reduceMul] | ((first | refine gwR [] ?_ | refine gwD [] ?_); intro Q hQ hP; simp [hC, hY, fa_8, fa_4, hx, hw]; (first | refine hQ _ _ _ _ (by kernel_rfl) ?_ | refine hP _ _ (by kernel_rfl) fun _ => ?_); clear hQ hP Q) | apply gwB | apply gwT | apply gwK | apply gwE | apply gwG | apply gwL | simp only [blockG_exit] | (refine gwC ?_ ?_ <;> (intro hb; first | (cases hb; done) | skip)))
          refine ⟨.inr trivial, ?_⟩
          rw [ovD] at hov
          simp [Tryz.results26, hs2 hn, mulO, hx]
          have := sz_small D hbd.1 (by simpa using hov)
          simp at hov
          omega
        · have hw := words_ne D hzz
          repeat' (first | apply gwS | simp only [wN, wM, Nat.reduceAdd, Nat.reduceMul] | ((first | refine gwR [] ?_ | refine gwD [] ?_); intro Q hQ hP; simp [hC, hY, fa_8, fa_4, hx, hw]; (first | refine hQ _ _ _ _ (by kernel_rfl) ?_ | refine hP _ _ (by kernel_rfl) fun _ => ?_); clear hQ hP Q) | apply gwB | apply gwT | apply gwK | apply gwE | apply gwG | apply gwL | simp only [blockG_exit] | (refine gwC ?_ ?_ <;> (intro hb; first | (cases hb; done) | skip)))
          refine ⟨.inr trivial, ?_⟩
          rw [ovD] at hov
          simp [Tryz.results26, hs2 hn, mulO, hx]
          rw [Bool.eq_iff_iff]
          simp [ng_sz]
          have h3 := sz_small D hbd.1 (by simpa using hov)
          have h4 := sz_negl D hbd.1 (by simpa using hov)
          simp at hov
          omega
      · have hov : ovD D = true := by rw [← hor]; simp [hx]
        unfold orW at hx
        have hx2 : (bitI .or .u64 (bitI .or .u64 (bitI .or .u64 (wi D 4) (wi D 5)) (wi D 6)) (wi D 7) == 0) = false := by simpa using hx
        have hx3 : (bitI .or .u64 (bitI .or .u64 (bitI .or .u64 (wi D 4) (wi D 5)) (wi D 6)) (wi D 7) != 0) = true := by simpa using hx
        repeat' (first | apply gwS | simp only [wN, wM, Nat.reduceAdd, Nat.reduceMul] | ((first | refine gwR [] ?_ | refine gwD [] ?_); intro Q hQ hP; simp [hC, hY, fa_8, fa_4, hx, hx2, hx3]; (first | refine hQ _ _ _ _ (by kernel_rfl) ?_ | refine hP _ _ (by kernel_rfl) fun _ => ?_); clear hQ hP Q) | apply gwB | apply gwT | apply gwK | apply gwE | apply gwG | apply gwL | simp only [blockG_exit] | (refine gwC ?_ ?_ <;> (intro hb; first | (cases hb; done) | skip)))
        refine ⟨.inr trivial, ?_⟩
        rw [ovD] at hov
        simp [Tryz.results26, hs2 hn, mulO, hx]
        simp at hov
        omega
  · have hn : (ng a == ng b) = false := by rw [ha, hq]; rfl
    refine GW_for 4 (mwSt 360 true (um a) (um b)) ?_ ?_ ?_
    · have e1 := wum_p a ha
      have e2 := wum_m b hq
      refine weakL _ 600 hC G0F (m0 := []) hC0 (by omega) ?_ ?_ ?_
      · simp [dom, fa_4, e1]
      · simp [fa_ids, fa_4, fa_8, e1, e2, wprow, Int.emod_one, wi_zero]
      · simp
    · intro i hi
      have hi' : (i : Int) < 4 := by omega
      have hz : (0 : Int) ≤ i := by omega
      have hs : Int.bmod ((i : Int) + 1) 18446744073709551616 = ((i + 1 : Nat) : Int) := by rw [bm (by omega) (by omega)]; rfl
      unfold mwSt
      repeat' (first | apply gwS | simp only [wN, wM, Nat.reduceAdd, Nat.reduceMul] | ((first | refine gwR [] ?_ | refine gwD [] ?_); intro Q hQ hP; simp [hC, hY, hi, hi', hz, hs, fa_get]; (first | refine hQ _ _ _ _ (by kernel_rfl) ?_ | refine hP _ _ (by kernel_rfl) fun _ => ?_); clear hQ hP Q) | apply gwB | apply gwT | apply gwK | apply gwE | apply gwG | apply gwL | simp only [blockG_exit] | (refine gwC ?_ ?_ <;> (intro hb; first | (cases hb; done) | skip)))
      refine GW_for 4 (mwSt2 360 true (um a) (um b) i) ?_ ?_ ?_
      · refine weakL _ 600 hC G0F (m0 := []) hC0 (by omega) ?_ ?_ ?_
        · simp [dom, wpcar_zero]
        · have e : fa 8 .u64 (wpout (um a) (um b) i 0) = fa 8 .u64 (wi (wprow (um a) (um b) i)) := fa_congr fun j _ => by unfold wpout; rw [if_neg (by omega)]
          simp [e, fa_ids]
        · simp
      · intro k hk
        have hk' : (k : Int) < 4 := by omega
        have hkz : (0 : Int) ≤ k := by omega
        have hs2 : Int.bmod ((k : Int) + 1) 18446744073709551616 = ((k + 1 : Nat) : Int) := by rw [bm (by omega) (by omega)]; rfl
        have hik : Int.bmod ((i : Int) + k) 18446744073709551616 = ((i + k : Nat) : Int) := by rw [bm (by omega) (by omega)]; rfl
        have hik2 : i + k < 8 := by omega
        have hik3 : (i : Int) + k < 8 := by omega
        have hik4 : (0 : Int) ≤ (i : Int) + k := by omega
        have hik5 : ((i : Int) + k).toNat = i + k := by omega
        have hik6 : (i : Int) + k ≤ 7 := by omega
        have hik7 : i + k ≤ 7 := by omega
        have hn := wn_bd (um a) (um b) i k
        have hc := wpcar_bd (um a) (um b) i k
        unfold mwSt2
        repeat' (first | apply gwS | simp only [wN, wM, Nat.reduceAdd, Nat.reduceMul] | ((first | refine gwR [] ?_ | refine gwD [] ?_); intro Q hQ hP; simp [hC, hY, hi, hi', hz, hk, hk', hkz, hik, hik2, hik3, hik4, hik5, hik6, hik7, hs2, fa_get, fa_set, wi_ge, wi_lt, hn.1, hn.2.1, hn.2.2, hc.1]; (first | refine hQ _ _ _ _ (by kernel_rfl) ?_ | refine hP _ _ (by kernel_rfl) fun _ => ?_); clear hQ hP Q) | apply gwB | apply gwT | apply gwK | apply gwE | apply gwG | apply gwL | simp only [blockG_exit] | (refine gwC ?_ ?_ <;> (intro hb; first | (cases hb; done) | skip)))
        refine weakL _ 600 hC G0F (m0 := []) hC0 (by omega) ?_ ?_ ?_
        · simp [dom, hs2, wdivS]
        · have e : fa 8 .u64 (upd (wpout (um a) (um b) i k) (i + k) (wi (wprow (um a) (um b) (i + 1)) (i + k))) = fa 8 .u64 (wpout (um a) (um b) i (k + 1)) := fa_congr fun j _ => wpout_step (um a) (um b) i k j
          simp [fa_ids, wmodS, e]
        · simp
      · have hi8 : Int.bmod ((i : Int) + 4) 18446744073709551616 = (i : Int) + 4 := bm (by omega) (by omega)
        have hi9 : (0 : Int) ≤ (i : Int) + 4 := by omega
        have hi10 : ((i : Int) + 4).toNat = i + 4 := by omega
        have hi11 : (i : Int) + 4 < 8 := by omega
        have hi12 : (i : Int) ≤ 3 := by omega
        have hi14 : i ≤ 3 := by omega
        have hi13 : i + 4 < 8 := by omega
        unfold mwSt2
        repeat' (first | apply gwS | simp only [wN, wM, Nat.reduceAdd, Nat.reduceMul] | ((first | refine gwR [] ?_ | refine gwD [] ?_); intro Q hQ hP; simp [hC, hY, hi, hi', hz, hs, hi8, hi9, hi10, hi11, hi12, hi13, hi14, fa_set]; (first | refine hQ _ _ _ _ (by kernel_rfl) ?_ | refine hP _ _ (by kernel_rfl) fun _ => ?_); clear hQ hP Q) | apply gwB | apply gwT | apply gwK | apply gwE | apply gwG | apply gwL | simp only [blockG_exit] | (refine gwC ?_ ?_ <;> (intro hb; first | (cases hb; done) | skip)))
        refine weakL _ 600 hC G0F (m0 := []) hC0 (by omega) ?_ ?_ ?_
        · simp [dom, hs]
        · have e : fa 8 .u64 (upd (wpout (um a) (um b) i 4) (i + 4) (wpcar (um a) (um b) i 4)) = fa 8 .u64 (wi (wprow (um a) (um b) (i + 1))) := fa_congr fun j _ => wpout_end (um a) (um b) i hB0 hB1 j
          simp [fa_ids, e]
        · simp
    · unfold mwSt
      rw [eD]
      by_cases hx : orW D = 0
      · have hov : ovD D = false := by rw [← hor]; simp [hx]
        unfold orW at hx
        by_cases hzz : sz D = 0
        · have hw := words_z D hzz
          repeat' (first | apply gwS | simp only [wN, wM, Nat.reduceAdd, Nat.reduceMul] | ((first | refine gwR [] ?_ | refine gwD [] ?_); intro Q hQ hP; simp [hC, hY, fa_8, fa_4, hx, hw]; (first | refine hQ _ _ _ _ (by kernel_rfl) ?_ | refine hP _ _ (by kernel_rfl) fun _ => ?_); clear hQ hP Q) | apply gwB | apply gwT | apply gwK | apply gwE | apply gwG | apply gwL | simp only [blockG_exit] | (refine gwC ?_ ?_ <;> (intro hb; first | (cases hb; done) | skip)))
          refine ⟨.inr trivial, ?_⟩
          rw [ovD] at hov
          simp [Tryz.results26, hs2 hn, mulO, hx]
          have := sz_small D hbd.1 (by simpa using hov)
          simp at hov
          omega
        · have hw := words_ne D hzz
          repeat' (first | apply gwS | simp only [wN, wM, Nat.reduceAdd, Nat.reduceMul] | ((first | refine gwR [] ?_ | refine gwD [] ?_); intro Q hQ hP; simp [hC, hY, fa_8, fa_4, hx, hw]; (first | refine hQ _ _ _ _ (by kernel_rfl) ?_ | refine hP _ _ (by kernel_rfl) fun _ => ?_); clear hQ hP Q) | apply gwB | apply gwT | apply gwK | apply gwE | apply gwG | apply gwL | simp only [blockG_exit] | (refine gwC ?_ ?_ <;> (intro hb; first | (cases hb; done) | skip)))
          refine ⟨.inr trivial, ?_⟩
          rw [ovD] at hov
          simp [Tryz.results26, hs2 hn, mulO, hx]
          rw [Bool.eq_iff_iff]
          simp [ng_sz]
          have h3 := sz_small D hbd.1 (by simpa using hov)
          have h4 := sz_negl D hbd.1 (by simpa using hov)
          simp at hov
          omega
      · have hov : ovD D = true := by rw [← hor]; simp [hx]
        unfold orW at hx
        have hx2 : (bitI .or .u64 (bitI .or .u64 (bitI .or .u64 (wi D 4) (wi D 5)) (wi D 6)) (wi D 7) == 0) = false := by simpa using hx
        have hx3 : (bitI .or .u64 (bitI .or .u64 (bitI .or .u64 (wi D 4) (wi D 5)) (wi D 6)) (wi D 7) != 0) = true := by simpa using hx
        repeat' (first | apply gwS | simp only [wN, wM, Nat.reduceAdd, Nat.reduceMul] | ((first | refine gwR [] ?_ | refine gwD [] ?_); intro Q hQ hP; simp [hC, hY, fa_8, fa_4, hx, hx2, hx3]; (first | refine hQ _ _ _ _ (by kernel_rfl) ?_ | refine hP _ _ (by kernel_rfl) fun _ => ?_); clear hQ hP Q) | apply gwB | apply gwT | apply gwK | apply gwE | apply gwG | apply gwL | simp only [blockG_exit] | (refine gwC ?_ ?_ <;> (intro hb; first | (cases hb; done) | skip)))
        refine ⟨.inr trivial, ?_⟩
        rw [ovD] at hov
        simp [Tryz.results26, hs2 hn, mulO, hx]
        simp at hov
        omega
  · have hn : (ng a == ng b) = true := by rw [ha, hq]; rfl
    refine GW_for 4 (mwSt 408 false (um a) (um b)) ?_ ?_ ?_
    · have e1 := wum_p a ha
      have e2 := wum_p b hq
      refine weakL _ 600 hC G0F (m0 := []) hC0 (by omega) ?_ ?_ ?_
      · simp [dom, fa_4, e1]
      · simp [fa_ids, fa_4, fa_8, e1, e2, wprow, Int.emod_one, wi_zero]
      · simp
    · intro i hi
      have hi' : (i : Int) < 4 := by omega
      have hz : (0 : Int) ≤ i := by omega
      have hs : Int.bmod ((i : Int) + 1) 18446744073709551616 = ((i + 1 : Nat) : Int) := by rw [bm (by omega) (by omega)]; rfl
      unfold mwSt
      repeat' (first | apply gwS | simp only [wN, wM, Nat.reduceAdd, Nat.reduceMul] | ((first | refine gwR [] ?_ | refine gwD [] ?_); intro Q hQ hP; simp [hC, hY, hi, hi', hz, hs, fa_get]; (first | refine hQ _ _ _ _ (by kernel_rfl) ?_ | refine hP _ _ (by kernel_rfl) fun _ => ?_); clear hQ hP Q) | apply gwB | apply gwT | apply gwK | apply gwE | apply gwG | apply gwL | simp only [blockG_exit] | (refine gwC ?_ ?_ <;> (intro hb; first | (cases hb; done) | skip)))
      refine GW_for 4 (mwSt2 408 false (um a) (um b) i) ?_ ?_ ?_
      · refine weakL _ 600 hC G0F (m0 := []) hC0 (by omega) ?_ ?_ ?_
        · simp [dom, wpcar_zero]
        · have e : fa 8 .u64 (wpout (um a) (um b) i 0) = fa 8 .u64 (wi (wprow (um a) (um b) i)) := fa_congr fun j _ => by unfold wpout; rw [if_neg (by omega)]
          simp [e, fa_ids]
        · simp
      · intro k hk
        have hk' : (k : Int) < 4 := by omega
        have hkz : (0 : Int) ≤ k := by omega
        have hs2 : Int.bmod ((k : Int) + 1) 18446744073709551616 = ((k + 1 : Nat) : Int) := by rw [bm (by omega) (by omega)]; rfl
        have hik : Int.bmod ((i : Int) + k) 18446744073709551616 = ((i + k : Nat) : Int) := by rw [bm (by omega) (by omega)]; rfl
        have hik2 : i + k < 8 := by omega
        have hik3 : (i : Int) + k < 8 := by omega
        have hik4 : (0 : Int) ≤ (i : Int) + k := by omega
        have hik5 : ((i : Int) + k).toNat = i + k := by omega
        have hik6 : (i : Int) + k ≤ 7 := by omega
        have hik7 : i + k ≤ 7 := by omega
        have hn := wn_bd (um a) (um b) i k
        have hc := wpcar_bd (um a) (um b) i k
        unfold mwSt2
        repeat' (first | apply gwS | simp only [wN, wM, Nat.reduceAdd, Nat.reduceMul] | ((first | refine gwR [] ?_ | refine gwD [] ?_); intro Q hQ hP; simp [hC, hY, hi, hi', hz, hk, hk', hkz, hik, hik2, hik3, hik4, hik5, hik6, hik7, hs2, fa_get, fa_set, wi_ge, wi_lt, hn.1, hn.2.1, hn.2.2, hc.1]; (first | refine hQ _ _ _ _ (by kernel_rfl) ?_ | refine hP _ _ (by kernel_rfl) fun _ => ?_); clear hQ hP Q) | apply gwB | apply gwT | apply gwK | apply gwE | apply gwG | apply gwL | simp only [blockG_exit] | (refine gwC ?_ ?_ <;> (intro hb; first | (cases hb; done) | skip)))
        refine weakL _ 600 hC G0F (m0 := []) hC0 (by omega) ?_ ?_ ?_
        · simp [dom, hs2, wdivS]
        · have e : fa 8 .u64 (upd (wpout (um a) (um b) i k) (i + k) (wi (wprow (um a) (um b) (i + 1)) (i + k))) = fa 8 .u64 (wpout (um a) (um b) i (k + 1)) := fa_congr fun j _ => wpout_step (um a) (um b) i k j
          simp [fa_ids, wmodS, e]
        · simp
      · have hi8 : Int.bmod ((i : Int) + 4) 18446744073709551616 = (i : Int) + 4 := bm (by omega) (by omega)
        have hi9 : (0 : Int) ≤ (i : Int) + 4 := by omega
        have hi10 : ((i : Int) + 4).toNat = i + 4 := by omega
        have hi11 : (i : Int) + 4 < 8 := by omega
        have hi12 : (i : Int) ≤ 3 := by omega
        have hi14 : i ≤ 3 := by omega
        have hi13 : i + 4 < 8 := by omega
        unfold mwSt2
        repeat' (first | apply gwS | simp only [wN, wM, Nat.reduceAdd, Nat.reduceMul] | ((first | refine gwR [] ?_ | refine gwD [] ?_); intro Q hQ hP; simp [hC, hY, hi, hi', hz, hs, hi8, hi9, hi10, hi11, hi12, hi13, hi14, fa_set]; (first | refine hQ _ _ _ _ (by kernel_rfl) ?_ | refine hP _ _ (by kernel_rfl) fun _ => ?_); clear hQ hP Q) | apply gwB | apply gwT | apply gwK | apply gwE | apply gwG | apply gwL | simp only [blockG_exit] | (refine gwC ?_ ?_ <;> (intro hb; first | (cases hb; done) | skip)))
        refine weakL _ 600 hC G0F (m0 := []) hC0 (by omega) ?_ ?_ ?_
        · simp [dom, hs]
        · have e : fa 8 .u64 (upd (wpout (um a) (um b) i 4) (i + 4) (wpcar (um a) (um b) i 4)) = fa 8 .u64 (wi (wprow (um a) (um b) (i + 1))) := fa_congr fun j _ => wpout_end (um a) (um b) i hB0 hB1 j
          simp [fa_ids, e]
        · simp
    · unfold mwSt
      rw [eD]
      by_cases hx : orW D = 0
      · have hov : ovD D = false := by rw [← hor]; simp [hx]
        unfold orW at hx
        repeat' (first | apply gwS | simp only [wN, wM, Nat.reduceAdd, Nat.reduceMul] | ((first | refine gwR [] ?_ | refine gwD [] ?_); intro Q hQ hP; simp [hC, hY, fa_8, fa_4, hx]; (first | refine hQ _ _ _ _ (by kernel_rfl) ?_ | refine hP _ _ (by kernel_rfl) fun _ => ?_); clear hQ hP Q) | apply gwB | apply gwT | apply gwK | apply gwE | apply gwG | apply gwL | simp only [blockG_exit] | (refine gwC ?_ ?_ <;> (intro hb; first | (cases hb; done) | skip)))
        refine ⟨.inr trivial, ?_⟩
        rw [ovD] at hov
        simp [Tryz.results26, hs1 hn, mulO, hx]
        rw [Bool.eq_iff_iff]
        simp [ng_sz]
        have h3 := sz_small D hbd.1 (by simpa using hov)
        simp at hov
        omega
      · have hov : ovD D = true := by rw [← hor]; simp [hx]
        unfold orW at hx
        have hx2 : (bitI .or .u64 (bitI .or .u64 (bitI .or .u64 (wi D 4) (wi D 5)) (wi D 6)) (wi D 7) == 0) = false := by simpa using hx
        have hx3 : (bitI .or .u64 (bitI .or .u64 (bitI .or .u64 (wi D 4) (wi D 5)) (wi D 6)) (wi D 7) != 0) = true := by simpa using hx
        repeat' (first | apply gwS | simp only [wN, wM, Nat.reduceAdd, Nat.reduceMul] | ((first | refine gwR [] ?_ | refine gwD [] ?_); intro Q hQ hP; simp [hC, hY, fa_8, fa_4, hx, hx2, hx3]; (first | refine hQ _ _ _ _ (by kernel_rfl) ?_ | refine hP _ _ (by kernel_rfl) fun _ => ?_); clear hQ hP Q) | apply gwB | apply gwT | apply gwK | apply gwE | apply gwG | apply gwL | simp only [blockG_exit] | (refine gwC ?_ ?_ <;> (intro hb; first | (cases hb; done) | skip)))
        refine ⟨.inr trivial, ?_⟩
        rw [ovD] at hov
        simp [Tryz.results26, hs1 hn, mulO, hx]
        simp at hov
        omega
@[simp] theorem wMul (a b : Int) (K : Value → Prop) : callK Tryz.prog G0 26 #[Value.agg #[.int .u64 (wi (a) 0), .int .u64 (wi (a) 1), .int .u64 (wi (a) 2), .int .u64 (wi (a) 3)], Value.agg #[.int .u64 (wi (b) 0), .int .u64 (wi (b) 1), .int .u64 (wi (b) 2), .int .u64 (wi (b) 3)]] K ↔ K (.tuple #[wd (sz a * sz b), .bool (mulO a b)]) := callK_iff G0W (by kernel_rfl) (wmul_ret a b)

def erV (n : Int) : Value := .iface 35 (.int .i64 n)
@[simp] theorem erV_eq (n : Int) : erV n = .iface 35 (.int .i64 n) := rfl
def zB : Blk := ⟨#[.int .u64 0, .int .u64 0, .int .u64 0, .int .u64 0], .ty 30⟩
def eB (n : Int) : Blk := ⟨#[.int .i64 n], .ty 35⟩
theorem assert_ok (n : Int) (W : World) : (Instr.typeAssert (erV n) 20 35 true).run Tryz.prog W = .ok (.tuple #[.int .i64 n, .bool true]) W := by kernel_rfl
theorem assert_nil (W : World) : (Instr.typeAssert .nilIface 20 35 true).run Tryz.prog W = .ok (.tuple #[.int .i64 0, .bool false]) W := by kernel_rfl
theorem rep10 : Array.replicate 10 undef = #[undef, undef, undef, undef, undef, undef, undef, undef, undef, undef] := rfl
theorem rep7 : Array.replicate 7 undef = #[undef, undef, undef, undef, undef, undef, undef] := rfl
def capQ : Array Value := #[.pointer (some ⟨100000, 0, none⟩), .pointer (some ⟨100008, 0, none⟩)]
def hpQ (n : Int) : Hp := hpL G0 [(100000, zB), (100008, eB n)]
theorem hpQ_rst (n : Int) : rst (hpQ n) [100000, 100008] = hpQ n := hpL_rst G0F (by simp)
theorem hpQ_ids (n : Int) (k : Nat) (b : Blk) (D : Nat → Prop) (h : hpQ n k = some b) : b.ids D := by
  rcases hpL_mem h with h | h
  · simp at h
    rcases h with ⟨_, rfl⟩ | ⟨_, rfl⟩ <;> simp [zB, eB]
  · exact G0_closed _ _ _ h
theorem qrec (n : Int) : RecF Tryz.prog G0 113 capQ (hpQ 0) [100000, 100008] (erV n) [(100000, zB), (100008, eB n)] := by
  refine ⟨⟨_, Tryz.func113⟩, Tryz.call113, ?_, ?_⟩
  · refine back_of (k := 2) Tryz.func113 rfl fun args c₀ cs W hk hu => ?_
    obtain ⟨p0, p1, rfl⟩ : ∃ p0 p1, args = #[p0, p1] := by
      rcases args with ⟨l⟩
      match l, hk with
      | [a, b], _ => exact ⟨a, b, rfl⟩
    have hn : Tryz.f113.ntmps = 12 := Tryz.ntmps113
    refine wpSIn_seq (wpSIn_region ?_)
    simp [wpOpsSIn, List.range, List.range.loop, go_sem, recoverD, hu, hn, assert_nil, rep10]
    refine wpSIn_seq (wpSIn_region ?_)
    simp [wpOpsSIn, List.range, List.range.loop, go_sem]
    refine wpSIn_cond (t := false) (by simp [Act.eval]) ?_
    refine wpSIn_of_wpIn rfl (wpIn_skip ?_)
    exact ⟨.inl rfl, rfl, rfl, rfl, .tuple #[], by simp [results, Tryz.results113, go_sem]⟩
  · refine caught_of (B := 200000) (A := #[.pointer (some ⟨100000, 0, none⟩), .pointer (some ⟨100008, 0, none⟩), .int .i64 n, .bool true, .tuple #[.int .i64 n, .bool true], erV n, .tuple #[.int .i64 n, .bool true], .int .i64 n, .bool true, undef, undef, undef]) G0F (fun k hk => hpL_low (by simp) hk) Tryz.func113 rfl (by simp [Tryz.ntmps113]) ?_ ?_ ?_ ?_ ?_ ?_ (by omega) ?_ ?_
    · rw [hpQ_rst]; simp [hpQ, dom]; exact flatV_ids (by simp)
    · intro r c₀ cs W Q hu hQ
      have hrn : ∀ v, flatV v = true → ren r v = v := fun v hv => flatV_ren hv
      simp only [List.map_toArray, List.map_cons, List.map_nil, capQ] at hQ ⊢
      generalize ren r (.pointer (some ⟨100000, 0, none⟩)) = p0 at hQ ⊢
      generalize ren r (.pointer (some ⟨100008, 0, none⟩)) = p1 at hQ ⊢
      simp only [hrn (.int .i64 n) rfl, hrn (.bool true) rfl, hrn (erV n) rfl, hrn (.tuple #[.int .i64 n, .bool true]) (by simp), ren_undef] at hQ
      have hn : Tryz.f113.ntmps = 12 := Tryz.ntmps113
      have hA := assert_ok n
      simp only [erV_eq] at hA
      simp [wpOpsSIn, List.range, List.range.loop, go_sem, recoverD, hu, pand, erV, hn, hA, rep10]
      exact hQ
    · rw [hpQ_rst]; exact fun k b h => hpQ_ids 0 k b _ h
    · rw [hpQ_rst]; simp [hpQ, dom]
    · intro k b c h1 h2
      simp at h1 h2
      rcases h1 with ⟨rfl, rfl⟩ | ⟨rfl, rfl⟩ <;> rcases h2 with ⟨e2, rfl⟩ | ⟨e2, rfl⟩ <;> first | rfl | omega
    · simp [zB, eB]
    · rw [hpQ_rst]; exact fun x hx => by simp [hpQ, show ¬ x = 100000 by omega, show ¬ x = 100008 by omega, show 100 ≤ x by omega]
    · intro C hC hC0 hY
      rw [hpQ_rst]
      repeat' (first | apply gwS | simp only [wN, wM, Nat.reduceAdd, Nat.reduceMul] | ((first | refine gwR [] ?_ | refine gwD [] ?_); intro Q hQ hP; simp [hC, hY, hpQ, zB, eB]; (first | refine hQ _ _ _ _ (by kernel_rfl) ?_ | refine hP _ _ (by kernel_rfl) fun _ => ?_); clear hQ hP Q) | apply gwB | apply gwT | apply gwK | apply gwE | apply gwG | apply gwL | simp only [blockG_exit] | (refine gwC ?_ ?_ <;> (intro hb; first | (cases hb; done) | skip)))
      refine ⟨.inl trivial, by simp [Tryz.results113], fun k hk => ?_⟩
      simp [zB, eB, hpQ]
theorem neq_nil0 (W : World) : ((do eqGuard .neq 20 (.tmp 4) (.const .nilIface) .nilIface .nilIface; binOp .neq 20 .nilIface .nilIface : Sem Value)).run Tryz.prog W = .ok (.bool false) W := by kernel_rfl
def ifE : Value → Bool
  | .iface T (.int .i64 _) => T == 35
  | _ => false
def ifN : Value → Value
  | .iface _ u => u
  | v => v
@[simp] theorem ifE_eq (T : TypeId) (n : Int) : ifE (.iface T (.int .i64 n)) = (T == 35) := nr rfl
@[simp] theorem ifN_eq (T : TypeId) (u : Value) : ifN (.iface T u) = u := nr rfl
theorem ifE_of {v : Value} (h : ifE v = true) : ∃ n, v = erV n := by
  unfold ifE at h
  split at h
  · rename_i T n
    have : T = 35 := by simpa using h
    exact ⟨n, by rw [this]; rfl⟩
  · cases h
theorem pureV_iff {P : Program} {o : Oper} {ts : Nat → Value} {hp : Hp} {K : Value → Prop} {v : Value} (ho : ∀ x ∈ o.op.operands.toList, okX ts hp x ∧ flatV (gev ts x) = true) (hv : flatV v = true) (hr : ∀ W, (execOp (gev ts) o).run P W = .ok (.value v) W) : pureV P o ts hp K ↔ K v :=
  ⟨fun ⟨_, u, _, h1, h2⟩ => by
    have := (hr default).symm.trans (h1 default)
    injection this with this; injection this with this; subst this; exact h2, fun h => ⟨ho, v, hv, hr, h⟩⟩
@[simp] theorem bin2_inil (P : Program) (op : BinOp) (T t : TypeId) (v : Value) : bin2 P op T (.iface t v) .nilIface = none := by cases op <;> rfl
@[simp] theorem binX_neqnil {dst : Option Tmp} {x : Operand} {T : TypeId} {ps : String} {af : Array Edge} {g : Option (Nat × Bool)} {ts : Nat → Value} {hp : Hp} {C : Eff → Prop} (h : ifE (gev ts x) = true) (hx : okX ts hp x) :
    binX Tryz.prog none ⟨dst, .binOp .neq 20 x (.const .nilIface) 20, T, ps, af, g⟩ ts hp C ↔ C (val (.bool true) []) := by
  obtain ⟨n, hn⟩ := ifE_of h
  refine pureV_iff (K := fun v => C (val v [])) (v := .bool true) ?_ rfl fun W => ?_
  · intro y hy
    simp [Op.operands] at hy
    rcases hy with rfl | rfl
    · exact ⟨hx, by rw [hn]; rfl⟩
    · exact ⟨rfl, rfl⟩
  · show (execOp (gev ts) ⟨dst, .binOp .neq 20 x (.const .nilIface) 20, T, ps, af, g⟩).run Tryz.prog W = _
    simp only [execOp, hn]
    kernel_rfl
@[simp] theorem opX_assertE {dst : Option Tmp} {x : Operand} {T : TypeId} {ps : String} {af : Array Edge} {g : Option (Nat × Bool)} {V : XV} {yc nk : Nat} {ts : Nat → Value} {hp : Hp} {C : Eff → Prop} (h : ifE (gev ts x) = true) (hx : okX ts hp x) :
    opX Tryz.prog G0 V yc ⟨dst, .typeAssert x 20 35 false, T, ps, af, g⟩ ts hp nk C ↔ C (val (ifN (gev ts x)) []) := by
  obtain ⟨n, hn⟩ := ifE_of h
  refine pureV_iff (K := fun v => C (val v [])) ?_ ?_ fun W => ?_
  · intro y hy
    simp [Op.operands] at hy
    subst hy
    exact ⟨hx, by rw [hn]; rfl⟩
  · rw [hn]; rfl
  · simp only [execOp, hn]
    kernel_rfl
theorem rrec (n : Int) : RecF Tryz.prog G0 81 capQ (hpQ 0) [100000, 100008] (erV n) [(100000, zB), (100008, eB n)] := by
  refine ⟨⟨_, Tryz.func81⟩, Tryz.call81, ?_, ?_⟩
  · refine back_of (k := 2) Tryz.func81 rfl fun args c₀ cs W hk hu => ?_
    obtain ⟨p0, p1, rfl⟩ : ∃ p0 p1, args = #[p0, p1] := by
      rcases args with ⟨l⟩
      match l, hk with
      | [a, b], _ => exact ⟨a, b, rfl⟩
    have hn : Tryz.f81.ntmps = 9 := Tryz.ntmps81
    refine wpSIn_seq (wpSIn_region ?_)
    simp [wpOpsSIn, List.range, List.range.loop, go_sem, recoverD, hu, hn, rep7]
    refine wpSIn_seq (wpSIn_region ?_)
    simp [wpOpsSIn, List.range, List.range.loop, go_sem, neq_nil0]
    refine wpSIn_cond (t := false) (by simp [Act.eval]) ?_
    refine wpSIn_of_wpIn rfl (wpIn_skip ?_)
    exact ⟨.inl rfl, rfl, rfl, rfl, .tuple #[], by simp [results, Tryz.results81, go_sem]⟩
  · refine caught_of (B := 200000) (A := #[.pointer (some ⟨100000, 0, none⟩), .pointer (some ⟨100008, 0, none⟩), erV n, erV n, undef, undef, undef, undef, undef]) G0F (fun k hk => hpL_low (by simp) hk) Tryz.func81 rfl (by simp [Tryz.ntmps81]) ?_ ?_ ?_ ?_ ?_ ?_ (by omega) ?_ ?_
    · rw [hpQ_rst]; simp [hpQ, dom]
    · intro r c₀ cs W Q hu hQ
      have hrn : ∀ v, flatV v = true → ren r v = v := fun v hv => flatV_ren hv
      simp only [List.map_toArray, List.map_cons, List.map_nil, capQ] at hQ ⊢
      generalize ren r (.pointer (some ⟨100000, 0, none⟩)) = p0 at hQ ⊢
      generalize ren r (.pointer (some ⟨100008, 0, none⟩)) = p1 at hQ ⊢
      simp only [hrn (erV n) rfl, ren_undef] at hQ
      have hn : Tryz.f81.ntmps = 9 := Tryz.ntmps81
      simp [wpOpsSIn, List.range, List.range.loop, go_sem, recoverD, hu, pand, erV, hn, rep7]
      exact hQ
    · rw [hpQ_rst]; exact fun k b h => hpQ_ids 0 k b _ h
    · rw [hpQ_rst]; simp [hpQ, dom]
    · intro k b c h1 h2
      simp at h1 h2
      rcases h1 with ⟨rfl, rfl⟩ | ⟨rfl, rfl⟩ <;> rcases h2 with ⟨e2, rfl⟩ | ⟨e2, rfl⟩ <;> first | rfl | omega
    · simp [zB, eB]
    · rw [hpQ_rst]; exact fun x hx => by simp [hpQ, show ¬ x = 100000 by omega, show ¬ x = 100008 by omega, show 100 ≤ x by omega]
    · intro C hC hC0 hY
      rw [hpQ_rst]
      repeat' (first | apply gwS | simp only [wN, wM, Nat.reduceAdd, Nat.reduceMul] | ((first | refine gwR [] ?_ | refine gwD [] ?_); intro Q hQ hP; simp [hC, hY, hpQ, zB, eB]; (first | refine hQ _ _ _ _ (by kernel_rfl) ?_ | refine hP _ _ (by kernel_rfl) fun _ => ?_); clear hQ hP Q) | apply gwB | apply gwT | apply gwK | apply gwE | apply gwG | apply gwL | simp only [blockG_exit] | (refine gwC ?_ ?_ <;> (intro hb; first | (cases hb; done) | skip)))
      refine ⟨.inl trivial, by simp [Tryz.results81], fun k hk => ?_⟩
      simp [zB, eB, hpQ]
theorem qtold_ret {g : FuncId} {capv : List Value} {hp : Hp} {rs : List Nat} {x0 x1 x2 x3 : Int} {ws : List (Nat × Blk)} (hG : ∀ k, k < 100 → hp k = G0 k) (hrs : ∀ k ∈ rs, k < 100000) (hc : capv.isEmpty = false) (hpl : capv.all plain0 = true)
    (h : Fun Tryz.prog G0 g capv.toArray hp rs (.ret (.agg #[.int .u64 x0, .int .u64 x1, .int .u64 x2, .int .u64 x3]) ws)) :
    Fun Tryz.prog G0 98 #[.func (.func g) #[] capv.toArray] hp rs (.ret (.tuple #[.agg #[.int .u64 x0, .int .u64 x1, .int .u64 x2, .int .u64 x3], .int .i64 0]) ws) := by
  have hids : ∀ x ∈ capv, ids0 (dom (rst hp rs)) x := fun x hx => (ids_plain0 (List.all_eq_true.1 hpl x hx)).1 (h.ids x (by simpa using hx))
  have hbig : ∀ x, 100000 ≤ x → rst hp rs x = none := fun x hx => by
    unfold rst; rw [if_neg]; rintro (h1 | h1)
    · omega
    · have := hrs x h1; omega
  refine fun_rec (out := .ret (.tuple #[.agg #[.int .u64 x0, .int .u64 x1, .int .u64 x2, .int .u64 x3], .int .i64 0]) ws) (B := 100000) (B1 := 100016) (id := 1) (t := 4) (ts1 := upd (upd (fun t => [Value.func (.func g) #[] capv.toArray][t]?.getD undef) 2 (gptr 100000)) 3 (gptr 100008))
    (hp1 := upd (upd (rst hp rs) 100000 (some zB)) 100008 (some (eB 0))) capQ G0F hG Tryz.func98 rfl (by simp [Tryz.ntmps98]) Tryz.call98 ⟨_, _, _, _, qrec 0⟩ ?_ h.closed ?_ (by simp [Tryz.ntmps98]) (by omega) hbig ?_ ?_ ?_ ?_ ?_ ?_
  · simpa using hids
  · exact ⟨flatV_ids (by simp), h.fits.2⟩
  · intro C hC hC0 hY
    repeat' (first | apply gwS | simp only [wN, wM, Nat.reduceAdd, Nat.reduceMul] | ((first | refine gwR [] ?_ | refine gwD [] ?_); intro Q hQ hP; simp [hC, hY]; (first | refine hQ _ _ _ _ (by kernel_rfl) ?_ | refine hP _ _ (by kernel_rfl) fun _ => ?_); clear hQ hP Q) | apply gwB | apply gwT | apply gwK | apply gwE | apply gwG | apply gwL | simp only [blockG_exit] | (refine gwC ?_ ?_ <;> (intro hb; first | (cases hb; done) | skip)))
    exact ⟨trivial, rfl⟩
  · intro k hk
    have h1 : ¬ k = 100000 := fun e => hk (hbig k (by omega))
    have h2 : ¬ k = 100008 := fun e => hk (hbig k (by omega))
    simp [h1, h2]
  · simp [okT, capQ]
  · simp [capQ]
  · simp [capQ]
  · intro C d hC hC0 hY
    refine GW_seq ?_
    refine GW_region' [] (by kernel_rfl) ?_; intro Q hQ hP; simp [hC, hY, hc, hpl]
    have hk1 : ∀ k ∈ keys ws, k < 100000 := fun k hk => hrs k (h.fits.2.1 k hk).1
    have hk2 : (100000 : Nat) ∉ keys ws := fun hm => by have := hk1 _ hm; omega
    have hk3 : (100008 : Nat) ∉ keys ws := fun hm => by have := hk1 _ hm; omega
    have w1 : updL (upd (upd (rst hp rs) 100000 (some zB)) 100008 (some (eB 0))) ws 100000 = some zB := by
      rw [updL_other hk2]; simp
    have w2 : updL (upd (upd (rst hp rs) 100000 (some zB)) 100008 (some (eB 0))) ws 100008 = some (eB 0) := by
      rw [updL_other hk3]; simp
    refine heapK_of (hp' := hp) h (fun k hk => ?_) hG trivial ?_
    · have := hrs k hk
      simp [rst, hk, show ¬ k = 100000 by omega, show ¬ k = 100008 by omega]
    simp only [zB, eB] at w1 w2
    simp [w1, w2, zB, eB]
    refine hQ _ _ _ _ ?_
    repeat' (first | apply gwS | simp only [wN, wM, Nat.reduceAdd, Nat.reduceMul] | ((first | refine gwR [] ?_ | refine gwD [] ?_); intro Q hQ hP; simp [hC, hY, w1, w2, zB, eB]; (first | refine hQ _ _ _ _ (by kernel_rfl) ?_ | refine hP _ _ (by kernel_rfl) fun _ => ?_); clear hQ hP Q) | apply gwB | apply gwT | apply gwK | apply gwE | apply gwG | apply gwL | simp only [blockG_exit] | (refine gwC ?_ ?_ <;> (intro hb; first | (cases hb; done) | skip)))
    refine ⟨.inr rfl, by simp [Tryz.results98], fun k hk => ?_⟩
    have h1 : ¬ k = 100000 := fun e => hk (hbig k (by omega))
    have h2 : ¬ k = 100008 := fun e => hk (hbig k (by omega))
    rw [updL_comm_upd hk3, updL_comm_upd hk2]
    simp [h1, h2]
theorem qtold_pan {g : FuncId} {capv : List Value} {hp : Hp} {rs : List Nat} {n : Int} (hG : ∀ k, k < 100 → hp k = G0 k) (hrs : ∀ k ∈ rs, k < 100000) (hc : capv.isEmpty = false) (hpl : capv.all plain0 = true)
    (h : Fun Tryz.prog G0 g capv.toArray hp rs (.pan (erV n))) :
    Fun Tryz.prog G0 98 #[.func (.func g) #[] capv.toArray] hp rs (.ret (.tuple #[.agg #[.int .u64 0, .int .u64 0, .int .u64 0, .int .u64 0], .int .i64 n]) []) := by
  have hids : ∀ x ∈ capv, ids0 (dom (rst hp rs)) x := fun x hx => (ids_plain0 (List.all_eq_true.1 hpl x hx)).1 (h.ids x (by simpa using hx))
  have hbig : ∀ x, 100000 ≤ x → rst hp rs x = none := fun x hx => by
    unfold rst; rw [if_neg]; rintro (h1 | h1)
    · omega
    · have := hrs x h1; omega
  refine fun_rec (out := .pan (erV n) [100000, 100008] [(100000, zB), (100008, eB n)] (.tuple #[.agg #[.int .u64 0, .int .u64 0, .int .u64 0, .int .u64 0], .int .i64 n])) (B := 100000) (B1 := 100016) (id := 1) (t := 4) (ts1 := upd (upd (fun t => [Value.func (.func g) #[] capv.toArray][t]?.getD undef) 2 (gptr 100000)) 3 (gptr 100008))
    (hp1 := upd (upd (rst hp rs) 100000 (some zB)) 100008 (some (eB 0))) capQ G0F hG Tryz.func98 rfl (by simp [Tryz.ntmps98]) Tryz.call98 ⟨_, _, _, _, qrec 0⟩ ?_ h.closed ?_ (by simp [Tryz.ntmps98]) (by omega) hbig ?_ ?_ ?_ ?_ ?_ ?_
  · simpa using hids
  · exact ⟨flatV_ids (by simp), by simp [keys], by simp, by simp⟩
  · intro C hC hC0 hY
    repeat' (first | apply gwS | simp only [wN, wM, Nat.reduceAdd, Nat.reduceMul] | ((first | refine gwR [] ?_ | refine gwD [] ?_); intro Q hQ hP; simp [hC, hY]; (first | refine hQ _ _ _ _ (by kernel_rfl) ?_ | refine hP _ _ (by kernel_rfl) fun _ => ?_); clear hQ hP Q) | apply gwB | apply gwT | apply gwK | apply gwE | apply gwG | apply gwL | simp only [blockG_exit] | (refine gwC ?_ ?_ <;> (intro hb; first | (cases hb; done) | skip)))
    exact ⟨trivial, rfl⟩
  · intro k hk
    have h1 : ¬ k = 100000 := fun e => hk (hbig k (by omega))
    have h2 : ¬ k = 100008 := fun e => hk (hbig k (by omega))
    simp [h1, h2]
  · simp [okT, capQ]
  · simp [capQ]
  · simp [capQ]
  · intro C d hC hC0 hY
    refine GW_seq ?_
    refine GW_region' [] (by kernel_rfl) ?_; intro Q hQ hP; simp [hC, hY, hc, hpl]
    refine heapK_of (hp' := hp) h (fun k hk => ?_) hG trivial ?_
    · have := hrs k hk
      simp [rst, hk, show ¬ k = 100000 by omega, show ¬ k = 100008 by omega]
    simp
    refine hP _ _ fun yc => ?_
    simp only [thenG_panic]
    have e : ∀ k, (k < 100 ∨ k ∈ [100000, 100008]) → hpQ 0 k = upd (upd (rst hp rs) 100000 (some zB)) 100008 (some (eB 0)) k := fun k hk => by
      rcases hk with hk | hk
      · simp [hpQ, show ¬ k = 100000 by omega, show ¬ k = 100008 by omega, rst, hk, hG k hk]
      · simp at hk; rcases hk with rfl | rfl <;> simp [hpQ]
    have er : rst (upd (upd (rst hp rs) 100000 (some zB)) 100008 (some (eB 0))) [100000, 100008] = hpQ 0 := by rw [← rst_congr e, hpQ_rst]
    refine ⟨rfl, by simp [Tryz.results98, zB, eB], fun k hk => rfl, (qrec n).under e, fun k hk => ?_, fun k hk => ?_, ?_⟩
    · rw [er] at hk; unfold dom at hk ⊢
      by_cases h1 : k = 100000
      · subst h1; simp
      · by_cases h2 : k = 100008
        · subst h2; simp
        · simp only [hpQ, hpL_cons, hpL_nil, h1, h2, if_false] at hk
          have hk100 := G0_dom hk
          simp [h1, h2, rst, hk100, hG k hk100]; exact hk
    · rw [er]
      simp [keys] at hk
      rcases hk with rfl | rfl
      · exact ⟨by simp [hpQ, dom], by omega, fun hd => hd (hbig _ (by omega))⟩
      · exact ⟨by simp [hpQ, dom], by omega, fun hd => hd (hbig _ (by omega))⟩
    · rw [er]; exact fun k b hk => hpQ_ids 0 k b _ hk
theorem rtold_ret {g : FuncId} {capv : List Value} {hp : Hp} {rs : List Nat} {x0 x1 x2 x3 : Int} {ws : List (Nat × Blk)} (hG : ∀ k, k < 100 → hp k = G0 k) (hrs : ∀ k ∈ rs, k < 100000) (hc : capv.isEmpty = false) (hpl : capv.all plain0 = true)
    (h : Fun Tryz.prog G0 g capv.toArray hp rs (.ret (.agg #[.int .u64 x0, .int .u64 x1, .int .u64 x2, .int .u64 x3]) ws)) :
    Fun Tryz.prog G0 57 #[.func (.func g) #[] capv.toArray] hp rs (.ret (.tuple #[.agg #[.int .u64 x0, .int .u64 x1, .int .u64 x2, .int .u64 x3], .int .i64 0]) ws) := by
  have hids : ∀ x ∈ capv, ids0 (dom (rst hp rs)) x := fun x hx => (ids_plain0 (List.all_eq_true.1 hpl x hx)).1 (h.ids x (by simpa using hx))
  have hbig : ∀ x, 100000 ≤ x → rst hp rs x = none := fun x hx => by
    unfold rst; rw [if_neg]; rintro (h1 | h1)
    · omega
    · have := hrs x h1; omega
  refine fun_rec (out := .ret (.tuple #[.agg #[.int .u64 x0, .int .u64 x1, .int .u64 x2, .int .u64 x3], .int .i64 0]) ws) (B := 100000) (B1 := 100016) (id := 1) (t := 4) (ts1 := upd (upd (fun t => [Value.func (.func g) #[] capv.toArray][t]?.getD undef) 2 (gptr 100000)) 3 (gptr 100008))
    (hp1 := upd (upd (rst hp rs) 100000 (some zB)) 100008 (some (eB 0))) capQ G0F hG Tryz.func57 rfl (by simp [Tryz.ntmps57]) Tryz.call57 ⟨_, _, _, _, rrec 0⟩ ?_ h.closed ?_ (by simp [Tryz.ntmps57]) (by omega) hbig ?_ ?_ ?_ ?_ ?_ ?_
  · simpa using hids
  · exact ⟨flatV_ids (by simp), h.fits.2⟩
  · intro C hC hC0 hY
    repeat' (first | apply gwS | simp only [wN, wM, Nat.reduceAdd, Nat.reduceMul] | ((first | refine gwR [] ?_ | refine gwD [] ?_); intro Q hQ hP; simp [hC, hY]; (first | refine hQ _ _ _ _ (by kernel_rfl) ?_ | refine hP _ _ (by kernel_rfl) fun _ => ?_); clear hQ hP Q) | apply gwB | apply gwT | apply gwK | apply gwE | apply gwG | apply gwL | simp only [blockG_exit] | (refine gwC ?_ ?_ <;> (intro hb; first | (cases hb; done) | skip)))
    exact ⟨trivial, rfl⟩
  · intro k hk
    have h1 : ¬ k = 100000 := fun e => hk (hbig k (by omega))
    have h2 : ¬ k = 100008 := fun e => hk (hbig k (by omega))
    simp [h1, h2]
  · simp [okT, capQ]
  · simp [capQ]
  · simp [capQ]
  · intro C d hC hC0 hY
    refine GW_seq ?_
    refine GW_region' [] (by kernel_rfl) ?_; intro Q hQ hP; simp [hC, hY, hc, hpl]
    have hk1 : ∀ k ∈ keys ws, k < 100000 := fun k hk => hrs k (h.fits.2.1 k hk).1
    have hk2 : (100000 : Nat) ∉ keys ws := fun hm => by have := hk1 _ hm; omega
    have hk3 : (100008 : Nat) ∉ keys ws := fun hm => by have := hk1 _ hm; omega
    have w1 : updL (upd (upd (rst hp rs) 100000 (some zB)) 100008 (some (eB 0))) ws 100000 = some zB := by
      rw [updL_other hk2]; simp
    have w2 : updL (upd (upd (rst hp rs) 100000 (some zB)) 100008 (some (eB 0))) ws 100008 = some (eB 0) := by
      rw [updL_other hk3]; simp
    refine heapK_of (hp' := hp) h (fun k hk => ?_) hG trivial ?_
    · have := hrs k hk
      simp [rst, hk, show ¬ k = 100000 by omega, show ¬ k = 100008 by omega]
    simp only [zB, eB] at w1 w2
    simp [w1, w2, zB, eB]
    refine hQ _ _ _ _ ?_
    repeat' (first | apply gwS | simp only [wN, wM, Nat.reduceAdd, Nat.reduceMul] | ((first | refine gwR [] ?_ | refine gwD [] ?_); intro Q hQ hP; simp [hC, hY, w1, w2, zB, eB]; (first | refine hQ _ _ _ _ (by kernel_rfl) ?_ | refine hP _ _ (by kernel_rfl) fun _ => ?_); clear hQ hP Q) | apply gwB | apply gwT | apply gwK | apply gwE | apply gwG | apply gwL | simp only [blockG_exit] | (refine gwC ?_ ?_ <;> (intro hb; first | (cases hb; done) | skip)))
    refine ⟨.inr rfl, by simp [Tryz.results57], fun k hk => ?_⟩
    have h1 : ¬ k = 100000 := fun e => hk (hbig k (by omega))
    have h2 : ¬ k = 100008 := fun e => hk (hbig k (by omega))
    rw [updL_comm_upd hk3, updL_comm_upd hk2]
    simp [h1, h2]
theorem rtold_pan {g : FuncId} {capv : List Value} {hp : Hp} {rs : List Nat} {n : Int} (hG : ∀ k, k < 100 → hp k = G0 k) (hrs : ∀ k ∈ rs, k < 100000) (hc : capv.isEmpty = false) (hpl : capv.all plain0 = true)
    (h : Fun Tryz.prog G0 g capv.toArray hp rs (.pan (erV n))) :
    Fun Tryz.prog G0 57 #[.func (.func g) #[] capv.toArray] hp rs (.ret (.tuple #[.agg #[.int .u64 0, .int .u64 0, .int .u64 0, .int .u64 0], .int .i64 n]) []) := by
  have hids : ∀ x ∈ capv, ids0 (dom (rst hp rs)) x := fun x hx => (ids_plain0 (List.all_eq_true.1 hpl x hx)).1 (h.ids x (by simpa using hx))
  have hbig : ∀ x, 100000 ≤ x → rst hp rs x = none := fun x hx => by
    unfold rst; rw [if_neg]; rintro (h1 | h1)
    · omega
    · have := hrs x h1; omega
  refine fun_rec (out := .pan (erV n) [100000, 100008] [(100000, zB), (100008, eB n)] (.tuple #[.agg #[.int .u64 0, .int .u64 0, .int .u64 0, .int .u64 0], .int .i64 n])) (B := 100000) (B1 := 100016) (id := 1) (t := 4) (ts1 := upd (upd (fun t => [Value.func (.func g) #[] capv.toArray][t]?.getD undef) 2 (gptr 100000)) 3 (gptr 100008))
    (hp1 := upd (upd (rst hp rs) 100000 (some zB)) 100008 (some (eB 0))) capQ G0F hG Tryz.func57 rfl (by simp [Tryz.ntmps57]) Tryz.call57 ⟨_, _, _, _, rrec 0⟩ ?_ h.closed ?_ (by simp [Tryz.ntmps57]) (by omega) hbig ?_ ?_ ?_ ?_ ?_ ?_
  · simpa using hids
  · exact ⟨flatV_ids (by simp), by simp [keys], by simp, by simp⟩
  · intro C hC hC0 hY
    repeat' (first | apply gwS | simp only [wN, wM, Nat.reduceAdd, Nat.reduceMul] | ((first | refine gwR [] ?_ | refine gwD [] ?_); intro Q hQ hP; simp [hC, hY]; (first | refine hQ _ _ _ _ (by kernel_rfl) ?_ | refine hP _ _ (by kernel_rfl) fun _ => ?_); clear hQ hP Q) | apply gwB | apply gwT | apply gwK | apply gwE | apply gwG | apply gwL | simp only [blockG_exit] | (refine gwC ?_ ?_ <;> (intro hb; first | (cases hb; done) | skip)))
    exact ⟨trivial, rfl⟩
  · intro k hk
    have h1 : ¬ k = 100000 := fun e => hk (hbig k (by omega))
    have h2 : ¬ k = 100008 := fun e => hk (hbig k (by omega))
    simp [h1, h2]
  · simp [okT, capQ]
  · simp [capQ]
  · simp [capQ]
  · intro C d hC hC0 hY
    refine GW_seq ?_
    refine GW_region' [] (by kernel_rfl) ?_; intro Q hQ hP; simp [hC, hY, hc, hpl]
    refine heapK_of (hp' := hp) h (fun k hk => ?_) hG trivial ?_
    · have := hrs k hk
      simp [rst, hk, show ¬ k = 100000 by omega, show ¬ k = 100008 by omega]
    simp
    refine hP _ _ fun yc => ?_
    simp only [thenG_panic]
    have e : ∀ k, (k < 100 ∨ k ∈ [100000, 100008]) → hpQ 0 k = upd (upd (rst hp rs) 100000 (some zB)) 100008 (some (eB 0)) k := fun k hk => by
      rcases hk with hk | hk
      · simp [hpQ, show ¬ k = 100000 by omega, show ¬ k = 100008 by omega, rst, hk, hG k hk]
      · simp at hk; rcases hk with rfl | rfl <;> simp [hpQ]
    have er : rst (upd (upd (rst hp rs) 100000 (some zB)) 100008 (some (eB 0))) [100000, 100008] = hpQ 0 := by rw [← rst_congr e, hpQ_rst]
    refine ⟨rfl, by simp [Tryz.results57, zB, eB], fun k hk => rfl, (rrec n).under e, fun k hk => ?_, fun k hk => ?_, ?_⟩
    · rw [er] at hk; unfold dom at hk ⊢
      by_cases h1 : k = 100000
      · subst h1; simp
      · by_cases h2 : k = 100008
        · subst h2; simp
        · simp only [hpQ, hpL_cons, hpL_nil, h1, h2, if_false] at hk
          have hk100 := G0_dom hk
          simp [h1, h2, rst, hk100, hG k hk100]; exact hk
    · rw [er]
      simp [keys] at hk
      rcases hk with rfl | rfl
      · exact ⟨by simp [hpQ, dom], by omega, fun hd => hd (hbig _ (by omega))⟩
      · exact ⟨by simp [hpQ, dom], by omega, fun hd => hd (hbig _ (by omega))⟩
    · rw [er]; exact fun k b hk => hpQ_ids 0 k b _ hk

def nbits (x : Int) : Int := if x ≤ 0 then 0 else (Nat.log2 x.toNat : Int) + 1
theorem nbits_pos {x : Int} (h : 0 < x) : ∃ k : Nat, nbits x = k + 1 ∧ 2 ^ k ≤ x ∧ x < 2 ^ (k + 1) := by
  refine ⟨Nat.log2 x.toNat, by unfold nbits; rw [if_neg (by omega)], ?_, ?_⟩
  · have := Nat.log2_self_le (n := x.toNat) (by omega)
    have h2 : ((2 ^ Nat.log2 x.toNat : Nat) : Int) ≤ (x.toNat : Int) := by exact_mod_cast this
    rw [Int.toNat_of_nonneg (by omega)] at h2
    exact_mod_cast h2
  · have := Nat.lt_log2_self (n := x.toNat)
    have h2 : (x.toNat : Int) < ((2 ^ (Nat.log2 x.toNat + 1) : Nat) : Int) := by exact_mod_cast this
    rw [Int.toNat_of_nonneg (by omega)] at h2
    exact_mod_cast h2
theorem nbits_is {x : Int} {k : Nat} (h1 : 2 ^ k ≤ x) (h2 : x < 2 ^ (k + 1)) : nbits x = k + 1 := by
  have hp : (0 : Int) < 2 ^ k := Int.pow_pos (by omega)
  unfold nbits
  rw [if_neg (by omega)]
  have : Nat.log2 x.toNat = k := (Nat.log2_eq_iff (by omega)).2 ⟨by
    have : ((2 ^ k : Nat) : Int) ≤ (x.toNat : Int) := by rw [Int.toNat_of_nonneg (by omega)]; exact_mod_cast h1
    exact_mod_cast this, by
    have : (x.toNat : Int) < ((2 ^ (k + 1) : Nat) : Int) := by rw [Int.toNat_of_nonneg (by omega)]; exact_mod_cast h2
    exact_mod_cast this⟩
  rw [this]
theorem nbits_div {x : Int} (j : Nat) (h : 2 ^ j ≤ x) : nbits x = j + nbits (x / 2 ^ j) := by
  have hp : (0 : Int) < 2 ^ j := Int.pow_pos (by omega)
  have h1 : 0 < x / 2 ^ j := by
    have := (Int.le_ediv_iff_mul_le hp (a := 1) (b := x)).2 (by omega); omega
  obtain ⟨k, e, l1, l2⟩ := nbits_pos h1
  rw [e]
  have := nbits_is (x := x) (k := j + k) (by
    have := (Int.le_ediv_iff_mul_le hp).1 l1
    rw [Int.pow_add, Int.mul_comm]; exact this) (by
    have := (Int.ediv_lt_iff_lt_mul hp).1 l2
    rw [Nat.add_assoc, Int.pow_add, Int.mul_comm]; exact this)
  rw [this]; omega
theorem idvS_tab {s : ByteArray} {m : Int} {C : Eff → Prop} (h0 : 0 ≤ m) (h1 : m < 256) (ht : ∀ k : Fin 256, (s[k.1]?).map (fun b => b.toNat) = some (if k.1 = 0 then 0 else Nat.log2 k.1 + 1)) (h : C (val (.int .u8 (nbits m)) [])) : idvS s m C := by
  have h2 := ht ⟨m.toNat, by omega⟩
  cases hb : s[m.toNat]? with
  | none => simp [hb] at h2
  | some b =>
    simp only [hb, Option.map_some, Option.some.injEq] at h2
    rw [idvS_at h0 hb, h2]
    have : ((if m.toNat = 0 then 0 else Nat.log2 m.toNat + 1 : Nat) : Int) = nbits m := by
      unfold nbits
      by_cases e : m ≤ 0
      · rw [if_pos e, if_pos (by omega)]; rfl
      · rw [if_neg e, if_neg (by omega)]; rfl
    exact this ▸ h
theorem nbits_lt {x : Int} (h : x < 256) : 0 ≤ nbits x ∧ nbits x ≤ 8 := by
  by_cases h0 : 0 < x
  · obtain ⟨k, e, l1, l2⟩ := nbits_pos h0
    rw [e]
    have : k < 8 := Classical.byContradiction fun hk => by
      have : (2 : Int) ^ 8 ≤ 2 ^ k := by exact_mod_cast Nat.pow_le_pow_right (by omega) (by omega : 8 ≤ k)
      omega
    omega
  · unfold nbits; rw [if_pos (by omega)]; omega
@[simp] theorem wrap_u8 (z : Int) : IntKind.u8.wrap z = z % 256 := rfl
set_option maxHeartbeats 1000000 in
theorem len64_ret (x : Int) (h0 : 0 ≤ x) (h1 : x < 18446744073709551616) : Ret Tryz.prog G0 131 #[.int .u64 x] (.int .i64 (nbits x)) := by
  refine ret_of G0F Tryz.func131 rfl Tryz.call131 rfl (by simp) (by simp [Tryz.ntmps131]) ?_
  intro C hC hC0 hY
  have f32 : ∀ z : Int, z.fdiv 4294967296 = z / 4294967296 := fun z => Int.fdiv_eq_ediv_of_nonneg z (by omega)
  have f16 : ∀ z : Int, z.fdiv 65536 = z / 65536 := fun z => Int.fdiv_eq_ediv_of_nonneg z (by omega)
  have f8 : ∀ z : Int, z.fdiv 256 = z / 256 := fun z => Int.fdiv_eq_ediv_of_nonneg z (by omega)
  have n32 : 4294967296 ≤ x → nbits x = 32 + nbits (x / 4294967296) := nbits_div 32
  have n16 : ∀ y : Int, 65536 ≤ y → nbits y = 16 + nbits (y / 65536) := fun y => nbits_div 16
  have n8 : ∀ y : Int, 256 ≤ y → nbits y = 8 + nbits (y / 256) := fun y => nbits_div 8
  repeat' (first | apply gwS | simp only [wN, wM, Nat.reduceAdd, Nat.reduceMul] | ((first | refine gwR [] ?_ | refine gwD [] ?_); intro Q hQ hP; simp [hC, hY, f32, f16, f8]; (first | refine hQ _ _ _ _ (by kernel_rfl) ?_ | refine hP _ _ (by kernel_rfl) fun _ => ?_); clear hQ hP Q) | apply gwB | apply gwT | apply gwK | apply gwE | apply gwG | apply gwL | simp only [blockG_exit] | (refine gwC ?_ ?_ <;> (intro hb; first | (cases hb; done) | skip)))
  all_goals
    rename_i c1 c2
    simp at c1 c2 hb
    refine GW_region' [] (by kernel_rfl) ?_; intro Q hQ hP; simp [hC, hY]
    refine idvS_tab (by omega) (by omega) (by decide +kernel) ?_
    simp
    refine hQ _ _ _ _ ?_
    repeat' (first | apply gwS | simp only [wN, wM, Nat.reduceAdd, Nat.reduceMul] | ((first | refine gwR [] ?_ | refine gwD [] ?_); intro Q hQ hP; simp [hC, hY]; (first | refine hQ _ _ _ _ (by kernel_rfl) ?_ | refine hP _ _ (by kernel_rfl) fun _ => ?_); clear hQ hP Q) | apply gwB | apply gwT | apply gwK | apply gwE | apply gwG | apply gwL | simp only [blockG_exit] | (refine gwC ?_ ?_ <;> (intro hb; first | (cases hb; done) | skip)))
    refine ⟨.inr trivial, ?_⟩
    simp [Tryz.results131]
    rw [Int.emod_eq_of_lt (by omega) (by omega)]
    have k2 := n16 x
    have k3 := n16 (x / 4294967296)
    have k4 := n8 x
    have k5 := n8 (x / 4294967296)
    have k6 := n8 (x / 65536)
    have k7 := n8 (x / 4294967296 / 65536)
    have b1 := nbits_lt (x := x)
    have b2 := nbits_lt (x := x / 256)
    have b3 := nbits_lt (x := x / 65536)
    have b4 := nbits_lt (x := x / 65536 / 256)
    have b5 := nbits_lt (x := x / 4294967296)
    have b6 := nbits_lt (x := x / 4294967296 / 256)
    have b7 := nbits_lt (x := x / 4294967296 / 65536)
    have b8 := nbits_lt (x := x / 4294967296 / 65536 / 256)
    rw [bm (by omega) (by omega)]
    try omega
@[simp] theorem len64 (x : Int) (h0 : 0 ≤ x) (h1 : x < 18446744073709551616) (K : Value → Prop) : callK Tryz.prog G0 131 #[.int .u64 x] K ↔ K (.int .i64 (nbits x)) := callK_iff G0W (by kernel_rfl) (len64_ret x h0 h1)
def uz (z : Int) : Int := z % 115792089237316195423570985008687907853269984665640564039457584007913129639936
theorem nbits_bd {x : Int} (j : Nat) (h : x < 2 ^ j) : 0 ≤ nbits x ∧ nbits x ≤ j := by
  by_cases h0 : 0 < x
  · obtain ⟨k, e, l1, l2⟩ := nbits_pos h0
    rw [e]
    have : k < j := Classical.byContradiction fun hk => by
      have : (2 : Int) ^ j ≤ 2 ^ k := by exact_mod_cast Nat.pow_le_pow_right (by omega) (by omega : j ≤ k)
      omega
    omega
  · unfold nbits; rw [if_pos (by omega)]; omega
theorem nb_word (z : Int) (k : Nat) : 0 ≤ nbits (wi z k) ∧ nbits (wi z k) ≤ 64 := nbits_bd 64 (by have := wi_lt z k; omega)
theorem size_3 (z : Int) (h : ¬ wi z 3 = 0) : nbits (uz z) = 192 + nbits (wi z 3) := by
  have h0 := wi_ge z 3
  have e : uz z / 2 ^ 192 = wi z 3 := by unfold uz wi; omega
  have := nbits_div (x := uz z) 192 (by unfold wi at h h0; unfold uz; omega)
  rw [this, e]; rfl
theorem size_2 (z : Int) (h3 : wi z 3 = 0) (h : ¬ wi z 2 = 0) : nbits (uz z) = 128 + nbits (wi z 2) := by
  have h0 := wi_ge z 2
  have e : uz z / 2 ^ 128 = wi z 2 := by unfold wi at h3; unfold uz wi; omega
  have := nbits_div (x := uz z) 128 (by unfold wi at h h0; unfold uz; omega)
  rw [this, e]; rfl
theorem size_1 (z : Int) (h3 : wi z 3 = 0) (h2 : wi z 2 = 0) (h : ¬ wi z 1 = 0) : nbits (uz z) = 64 + nbits (wi z 1) := by
  have h0 := wi_ge z 1
  have e : uz z / 2 ^ 64 = wi z 1 := by unfold wi at h3 h2; unfold uz wi; omega
  have := nbits_div (x := uz z) 64 (by unfold wi at h h0; unfold uz; omega)
  rw [this, e]; rfl
theorem size_0 (z : Int) (h3 : wi z 3 = 0) (h2 : wi z 2 = 0) (h1 : wi z 1 = 0) : uz z = wi z 0 := by
  unfold wi at h3 h2 h1; unfold uz wi; omega
theorem must_t (n : Int) : RetP Tryz.prog G0 114 #[.bool true, .int .i64 n] (.ret (.tuple #[])) := by
  refine retp_of G0F Tryz.func114 rfl Tryz.call114 (fun v h => by cases h; simp) (by simp) (by simp [Tryz.ntmps114]) ?_
  intro C hC hC0 hY
  repeat' (first | apply gwS | simp only [wN, wM, Nat.reduceAdd, Nat.reduceMul] | ((first | refine gwR [] ?_ | refine gwD [] ?_); intro Q hQ hP; simp [hC, hY]; (first | refine hQ _ _ _ _ (by kernel_rfl) ?_ | refine hP _ _ (by kernel_rfl) fun _ => ?_); clear hQ hP Q) | apply gwB | apply gwT | apply gwK | apply gwE | apply gwG | apply gwL | simp only [blockG_exit] | (refine gwC ?_ ?_ <;> (intro hb; first | (cases hb; done) | skip)))
  exact ⟨.inl trivial, by simp [Tryz.results114]⟩
theorem must_f (n : Int) : RetP Tryz.prog G0 114 #[.bool false, .int .i64 n] (.pan (erV n)) := by
  refine retp_of G0F Tryz.func114 rfl Tryz.call114 (fun v h => by cases h) (by simp) (by simp [Tryz.ntmps114]) ?_
  intro C hC hC0 hY
  repeat' (first | apply gwS | simp only [wN, wM, Nat.reduceAdd, Nat.reduceMul] | ((first | refine gwR [] ?_ | refine gwD [] ?_); intro Q hQ hP; simp [hC, hY]; (first | refine hQ _ _ _ _ (by kernel_rfl) ?_ | refine hP _ _ (by kernel_rfl) fun _ => ?_); clear hQ hP Q) | apply gwB | apply gwT | apply gwK | apply gwE | apply gwG | apply gwL | simp only [blockG_exit] | (refine gwC ?_ ?_ <;> (intro hb; first | (cases hb; done) | skip)))
  rfl
theorem sure_f (z : Int) : RetP Tryz.prog G0 115 #[wd z, .bool false] (.ret (wd z)) := by
  refine retp_of G0F Tryz.func115 rfl Tryz.call115 (fun v h => by cases h; simp) (by simp) (by simp [Tryz.ntmps115]) ?_
  intro C hC hC0 hY
  repeat' (first | apply gwS | simp only [wN, wM, Nat.reduceAdd, Nat.reduceMul] | ((first | refine gwR [1000114] ?_ | refine gwD [1000114] ?_); intro Q hQ hP; simp [hC, hY]; (repeat ((first | (refine callP_of (must_t 20) ?_)); try simp [hC, hY])); (first | refine hQ _ _ _ _ (by kernel_rfl) ?_ | refine hP _ _ (by kernel_rfl) fun _ => ?_); clear hQ hP Q) | apply gwB | apply gwT | apply gwK | apply gwE | apply gwG | apply gwL | simp only [blockG_exit] | (refine gwC ?_ ?_ <;> (intro hb; first | (cases hb; done) | skip)))
  exact ⟨.inr trivial, by simp [Tryz.results115]⟩
theorem size_ret (z : Int) : Ret Tryz.prog G0 135 #[wd z] (.int .i64 (nbits (uz z))) := by
  refine ret_of G0F Tryz.func135 rfl Tryz.call135 rfl (by simp) (by simp [Tryz.ntmps135]) ?_
  intro C hC hC0 hY
  have b0 := nb_word z 0
  have b1 := nb_word z 1
  have b2 := nb_word z 2
  have b3 := nb_word z 3
  have k3 := size_3 z
  have k2 := size_2 z
  have k1 := size_1 z
  have k0 := size_0 z
  have m3 : Int.bmod (192 + nbits (wi z 3)) 18446744073709551616 = 192 + nbits (wi z 3) := bm (by omega) (by omega)
  have m2 : Int.bmod (128 + nbits (wi z 2)) 18446744073709551616 = 128 + nbits (wi z 2) := bm (by omega) (by omega)
  have m1 : Int.bmod (64 + nbits (wi z 1)) 18446744073709551616 = 64 + nbits (wi z 1) := bm (by omega) (by omega)
  repeat' (first | apply gwS | refine GWL_start ?_ | refine GWL_step ?_ | simp only [wN, wM, Nat.reduceAdd, Nat.reduceMul] | ((first | refine gwR [] ?_ | refine gwD [] ?_); intro Q hQ hP; simp [hC, hY, wi_ge, wi_lt, m1, m2, m3]; (first | refine hQ _ _ _ _ (by kernel_rfl) ?_ | refine hP _ _ (by kernel_rfl) fun _ => ?_); clear hQ hP Q) | apply gwB | apply gwT | apply gwK | apply gwE | apply gwG | apply gwL | simp only [blockG_exit] | (refine gwC ?_ ?_ <;> (intro hb; first | (cases hb; done) | skip)))
  all_goals
    refine ⟨.inr trivial, ?_⟩
    simp [Tryz.results135]
    simp_all
@[simp] theorem qsize (z : Int) (K : Value → Prop) : callK Tryz.prog G0 135 #[Value.agg #[.int .u64 (wi (z) 0), .int .u64 (wi (z) 1), .int .u64 (wi (z) 2), .int .u64 (wi (z) 3)]] K ↔ K (.int .i64 (nbits (uz z))) := callK_iff G0W (by kernel_rfl) (size_ret z)

theorem emm (a p m : Int) : a % m * p % m = a * p % m := by rw [Int.mul_emod, Int.emod_emod_of_dvd _ (Int.dvd_refl _), ← Int.mul_emod]
theorem or_add {x y : Int} {R : Nat} (hx0 : 0 ≤ x) (hx : x < 18446744073709551616) (hd : x % 2 ^ R = 0) (hy0 : 0 ≤ y) (hy : y < 2 ^ R) (hR : R ≤ 64) : bitI .or .u64 x y = x + y := by
  have hp : (2 : Int) ^ R ≤ 2 ^ 64 := by exact_mod_cast Nat.pow_le_pow_right (by omega) (by omega : R ≤ 64)
  have e : bitI .or .u64 x y = ((BitVec.ofInt 64 x ||| BitVec.ofInt 64 y : BitVec 64).toNat : Int) % 18446744073709551616 := by
    unfold bitI
    show IntKind.u64.wrap ((BitVec.ofInt 64 x ||| BitVec.ofInt 64 y : BitVec 64).toNat : Int) = _
    rw [wrap_u64]
  have hx' : (BitVec.ofInt 64 x).toNat = x.toNat := by
    rw [BitVec.toNat_ofInt]; congr 1; exact Int.emod_eq_of_lt hx0 hx
  have hy' : (BitVec.ofInt 64 y).toNat = y.toNat := by
    rw [BitVec.toNat_ofInt]; congr 1; exact Int.emod_eq_of_lt hy0 (by omega)
  obtain ⟨X, rfl⟩ := Int.eq_ofNat_of_zero_le hx0
  obtain ⟨Y, rfl⟩ := Int.eq_ofNat_of_zero_le hy0
  have hd' : X % 2 ^ R = 0 := by exact_mod_cast hd
  have hY : Y < 2 ^ R := by exact_mod_cast hy
  have hX : X = (X / 2 ^ R) <<< R := by rw [Nat.shiftLeft_eq]; exact (Nat.div_mul_cancel (Nat.dvd_of_mod_eq_zero hd')).symm
  have hor : X ||| Y = X + Y := by
    rw [hX]; exact (Nat.shiftLeft_add_eq_or_of_lt hY _).symm
  have hp' : 2 ^ R ≤ 2 ^ 64 := Nat.pow_le_pow_right (by omega) (by omega : R ≤ 64)
  have hb : X + Y < 18446744073709551616 := by
    rw [← hor]; exact Nat.or_lt_two_pow (n := 64) (by omega) (by omega)
  rw [e, BitVec.toNat_or, hx', hy']
  simp only [Int.toNat_natCast, hor]
  omega
theorem two_split {R : Nat} (hR : R < 64) : (2 : Int) ^ R * 2 ^ (64 - R) = 18446744073709551616 := by
  rw [← Int.pow_add, show R + (64 - R) = 64 by omega]; rfl
theorem wi_shl0 (z : Int) (R : Nat) : wi (z * 2 ^ R) 0 = (wi z 0 * 2 ^ R) % 18446744073709551616 := by
  simp only [wi, Nat.mul_zero, Int.pow_zero, Int.ediv_one]
  rw [emm]
theorem wi_shlS (z : Int) (R : Nat) (hR : R < 64) (k : Nat) : wi (z * 2 ^ R) (k + 1) = (wi z (k + 1) * 2 ^ R) % 18446744073709551616 + wi z k / 2 ^ (64 - R) ∧ 0 ≤ wi z k / 2 ^ (64 - R) ∧ wi z k / 2 ^ (64 - R) < 2 ^ R ∧ (wi z (k + 1) * 2 ^ R) % 18446744073709551616 % 2 ^ R = 0 := by
  have hM := two_split hR
  have hPp : (0 : Int) < 2 ^ R := Int.pow_pos (by omega)
  have hSp : (0 : Int) < 2 ^ (64 - R) := Int.pow_pos (by omega)
  have e1 : (2 : Int) ^ (64 * (k + 1)) = 2 ^ (64 * k) * 18446744073709551616 := by
    rw [show 64 * (k + 1) = 64 * k + 64 by omega, Int.pow_add]; rfl
  have hKp : (0 : Int) < 2 ^ (64 * k) := Int.pow_pos (by omega)
  unfold wi
  rw [e1]
  generalize (2 : Int) ^ R = P at *
  generalize (2 : Int) ^ (64 - R) = S at *
  generalize (2 : Int) ^ (64 * k) = K at *
  have eu : z * P / (K * 18446744073709551616) = z / K / S := by
    rw [← hM, show K * (P * S) = (K * S) * P by rw [Int.mul_comm P S, Int.mul_assoc], Int.mul_ediv_mul_of_pos_left _ _ hPp, Int.ediv_ediv_of_nonneg (by omega)]
  rw [eu, ← Int.ediv_ediv_of_nonneg (Int.le_of_lt hKp)]
  generalize z / K = u at *
  have hdvd : P ∣ 18446744073709551616 := ⟨S, hM.symm⟩
  have h1 : 0 ≤ u % 18446744073709551616 / S := Int.ediv_nonneg (Int.emod_nonneg _ (by omega)) (by omega)
  have h2 : u % 18446744073709551616 / S < P := by
    have := Int.emod_lt_of_pos u (b := 18446744073709551616) (by omega)
    exact (Int.ediv_lt_iff_lt_mul hSp).2 (by rw [hM]; exact this)
  have h3 : (u / 18446744073709551616 % 18446744073709551616 * P) % 18446744073709551616 % P = 0 := by
    rw [Int.emod_emod_of_dvd _ hdvd, Int.mul_emod_left]
  refine ⟨?_, h1, h2, h3⟩
  have e2 : u / S = (u / 18446744073709551616) * P + u % 18446744073709551616 / S := by
    have := Int.emod_add_mul_ediv u 18446744073709551616
    have h4 : u = u % 18446744073709551616 + S * (u / 18446744073709551616 * P) := by
      have : S * (u / 18446744073709551616 * P) = 18446744073709551616 * (u / 18446744073709551616) := by
        rw [← hM, Int.mul_comm P S, Int.mul_assoc, Int.mul_comm _ P]
      omega
    conv => lhs; rw [h4]
    rw [Int.add_mul_ediv_left _ _ (by omega)]
    omega
  rw [e2, emm]
  have h5 : (u / 18446744073709551616 * P) % 18446744073709551616 % P = 0 := by rw [Int.emod_emod_of_dvd _ hdvd, Int.mul_emod_left]
  have h6 := Int.emod_nonneg (u / 18446744073709551616 * P) (b := 18446744073709551616) (by omega)
  have h7 := Int.emod_lt_of_pos (u / 18446744073709551616 * P) (b := 18446744073709551616) (by omega)
  have h8 : (u / 18446744073709551616 * P) % 18446744073709551616 ≤ 18446744073709551616 - P := by
    obtain ⟨c, hc⟩ := Int.dvd_of_emod_eq_zero h5
    rw [hc] at h7 ⊢
    rw [← hM] at h7 ⊢
    have : c < S := Int.lt_of_mul_lt_mul_left h7 (by omega)
    have : P * c ≤ P * (S - 1) := Int.mul_le_mul_of_nonneg_left (by omega) (by omega)
    rw [Int.mul_sub, Int.mul_one] at this
    exact this
  rw [Int.add_emod, Int.emod_eq_of_lt h1 (by omega), Int.emod_eq_of_lt (by omega) (by omega)]
theorem wi_up (z : Int) (q i R : Nat) (h : q ≤ i) : wi (z * 2 ^ (64 * q + R)) i = wi (z * 2 ^ R) (i - q) := by
  unfold wi
  obtain ⟨j, rfl⟩ : ∃ j, i = q + j := ⟨i - q, by omega⟩
  rw [show q + j - q = j by omega, Int.pow_add, show z * (2 ^ (64 * q) * 2 ^ R) = (z * 2 ^ R) * 2 ^ (64 * q) by rw [Int.mul_comm (2 ^ (64 * q)), Int.mul_assoc], show 64 * (q + j) = 64 * j + 64 * q by omega, Int.pow_add,
    Int.mul_ediv_mul_of_pos_left _ _ (Int.pow_pos (by omega))]
theorem wi_dn (z : Int) (q i R : Nat) (h : i < q) : wi (z * 2 ^ (64 * q + R)) i = 0 := by
  unfold wi
  obtain ⟨j, rfl⟩ : ∃ j, q = i + 1 + j := ⟨q - (i + 1), by omega⟩
  rw [show 64 * (i + 1 + j) + R = 64 * i + (64 + (64 * j + R)) by omega, Int.pow_add, Int.pow_add, show z * (2 ^ (64 * i) * (2 ^ 64 * 2 ^ (64 * j + R))) = (z * 2 ^ (64 * j + R) * 2 ^ 64) * 2 ^ (64 * i) by
    rw [Int.mul_comm (2 ^ (64 * i)), Int.mul_comm (2 ^ 64) (2 ^ (64 * j + R))]; simp only [Int.mul_assoc], Int.mul_ediv_cancel _ (by have : (0 : Int) < 2 ^ (64 * i) := Int.pow_pos (by omega); omega)]
  exact Int.mul_emod_left _ _
set_option maxHeartbeats 1000000 in
theorem shift_ret (z : Int) (q R : Nat) (hq : q < 4) (hR : R < 64) : Ret Tryz.prog G0 136 #[wd z, .int .i64 (64 * q + R)] (wd (z * 2 ^ (64 * q + R))) := by
  refine ret_of G0F Tryz.func136 rfl Tryz.call136 (by simp) (by simp) (by simp [Tryz.ntmps136]) ?_
  intro C hC hC0 hY
  have t1 : (64 * (q : Int) + R).tdiv 64 = q := by rw [Int.tdiv_eq_ediv_of_nonneg (by omega)]; omega
  have t2 : (64 * (q : Int) + R).tmod 64 = R := by rw [Int.tmod_eq_emod_of_nonneg (by omega)]; omega
  have m1 : min R 64 = R := by omega
  have m2 : Int.bmod (64 - (R : Int)) 18446744073709551616 = 64 - R := bm (by omega) (by omega)
  have m3 : (64 - (R : Int)).toNat = 64 - R := by omega
  have m4 : min (64 - R) 64 = 64 - R := by omega
  have m5 : (R : Int) ≤ 64 := by omega
  have m6 : (0 : Int) ≤ 64 - R := by omega
  have fd : ∀ x : Int, x.fdiv (2 ^ (64 - R)) = x / 2 ^ (64 - R) := fun x => Int.fdiv_eq_ediv_of_nonneg x (Int.le_of_lt (Int.pow_pos (by omega)))
  have OR : ∀ k, bitI .or .u64 ((wi z (k + 1) * 2 ^ R) % 18446744073709551616) (wi z k / 2 ^ (64 - R)) = wi (z * 2 ^ R) (k + 1) := fun k => by
    obtain ⟨e, h1, h2, h3⟩ := wi_shlS z R hR k
    rw [or_add (R := R) (Int.emod_nonneg _ (by omega)) (Int.emod_lt_of_pos _ (by omega)) h3 h1 h2 (by omega), e]
  have o0 := OR 0
  have o1 := OR 1
  have o2 := OR 2
  have s0 := wi_shl0 z R
  have : q = 0 ∨ q = 1 ∨ q = 2 ∨ q = 3 := by omega
  have up := wi_up z
  have dn := wi_dn z
  rcases this with rfl | rfl | rfl | rfl
  · simp at t1 t2
    repeat' (first | apply gwS | refine GWL_start ?_ | refine GWL_step ?_ | simp only [wN, wM, Nat.reduceAdd, Nat.reduceMul] | ((first | refine gwR [] ?_ | refine gwD [] ?_); intro Q hQ hP; simp [hC, hY, t1, t2, m1, m2, m3, m4, m5, m6, fd, wi_ge, wi_lt]; (first | refine hQ _ _ _ _ (by kernel_rfl) ?_ | refine hP _ _ (by kernel_rfl) fun _ => ?_); clear hQ hP Q) | apply gwB | apply gwT | apply gwK | apply gwE | apply gwG | apply gwL | simp only [blockG_exit] | (refine gwC ?_ ?_ <;> (intro hb; first | (cases hb; done) | skip)))
    refine ⟨.inr trivial, ?_⟩
    simp [Tryz.results136, o0, o1, o2, s0]
  · simp at t1 t2
    repeat' (first | apply gwS | refine GWL_start ?_ | refine GWL_step ?_ | simp only [wN, wM, Nat.reduceAdd, Nat.reduceMul] | ((first | refine gwR [] ?_ | refine gwD [] ?_); intro Q hQ hP; simp [hC, hY, t1, t2, m1, m2, m3, m4, m5, m6, fd, wi_ge, wi_lt]; (first | refine hQ _ _ _ _ (by kernel_rfl) ?_ | refine hP _ _ (by kernel_rfl) fun _ => ?_); clear hQ hP Q) | apply gwB | apply gwT | apply gwK | apply gwE | apply gwG | apply gwL | simp only [blockG_exit] | (refine gwC ?_ ?_ <;> (intro hb; first | (cases hb; done) | skip)))
    refine ⟨.inr trivial, ?_⟩
    simp [Tryz.results136, o0, o1, o2, s0]
    exact ⟨(dn 1 0 R (by omega)).symm, ((up 1 1 R (by omega)).trans s0).symm, (up 1 2 R (by omega)).symm, (up 1 3 R (by omega)).symm⟩
  · simp at t1 t2
    repeat' (first | apply gwS | refine GWL_start ?_ | refine GWL_step ?_ | simp only [wN, wM, Nat.reduceAdd, Nat.reduceMul] | ((first | refine gwR [] ?_ | refine gwD [] ?_); intro Q hQ hP; simp [hC, hY, t1, t2, m1, m2, m3, m4, m5, m6, fd, wi_ge, wi_lt]; (first | refine hQ _ _ _ _ (by kernel_rfl) ?_ | refine hP _ _ (by kernel_rfl) fun _ => ?_); clear hQ hP Q) | apply gwB | apply gwT | apply gwK | apply gwE | apply gwG | apply gwL | simp only [blockG_exit] | (refine gwC ?_ ?_ <;> (intro hb; first | (cases hb; done) | skip)))
    refine ⟨.inr trivial, ?_⟩
    simp [Tryz.results136, o0, o1, o2, s0]
    exact ⟨(dn 2 0 R (by omega)).symm, (dn 2 1 R (by omega)).symm, ((up 2 2 R (by omega)).trans s0).symm, (up 2 3 R (by omega)).symm⟩
  · simp at t1 t2
    repeat' (first | apply gwS | refine GWL_start ?_ | refine GWL_step ?_ | simp only [wN, wM, Nat.reduceAdd, Nat.reduceMul] | ((first | refine gwR [] ?_ | refine gwD [] ?_); intro Q hQ hP; simp [hC, hY, t1, t2, m1, m2, m3, m4, m5, m6, fd, wi_ge, wi_lt]; (first | refine hQ _ _ _ _ (by kernel_rfl) ?_ | refine hP _ _ (by kernel_rfl) fun _ => ?_); clear hQ hP Q) | apply gwB | apply gwT | apply gwK | apply gwE | apply gwG | apply gwL | simp only [blockG_exit] | (refine gwC ?_ ?_ <;> (intro hb; first | (cases hb; done) | skip)))
    refine ⟨.inr trivial, ?_⟩
    simp [Tryz.results136, o0, o1, o2, s0]
    exact ⟨(dn 3 0 R (by omega)).symm, (dn 3 1 R (by omega)).symm, (dn 3 2 R (by omega)).symm, ((up 3 3 R (by omega)).trans s0).symm⟩
theorem shift_n (z n : Int) (h0 : 0 ≤ n) (h1 : n < 256) : Ret Tryz.prog G0 136 #[wd z, .int .i64 n] (wd (z * 2 ^ n.toNat)) := by
  have h := shift_ret z (n / 64).toNat (n % 64).toNat (by omega) (by omega)
  have e : 64 * (n / 64).toNat + (n % 64).toNat = n.toNat := by omega
  have e' : (64 * ((n / 64).toNat : Int) + ((n % 64).toNat : Int)) = n := by omega
  rw [e, e'] at h
  exact h
@[simp] theorem qshift (z n : Int) (h0 : 0 ≤ n) (h1 : n < 256) (K : Value → Prop) : callK Tryz.prog G0 136 #[Value.agg #[.int .u64 (wi (z) 0), .int .u64 (wi (z) 1), .int .u64 (wi (z) 2), .int .u64 (wi (z) 3)], .int .i64 n] K ↔ K (wd (z * 2 ^ n.toNat)) := callK_iff G0W (by kernel_rfl) (shift_n z n h0 h1)

theorem shifts_new (a b : Int) (k : Nat) (h100 : 100 ≤ k) : Fun Tryz.prog G0 130 #[wd a, wd b] G0 [] (.new (.func (.func 134) #[] #[.pointer (some ⟨k, 0, none⟩), .pointer (some ⟨k + 1, 0, none⟩)]) [(k, wb a), (k + 1, wb b)]) := by
  have e0 : rst G0 [] = G0 := rst_G G0F []
  refine new_of (B := 200) (fun j => if j = k then 200 else if j = k + 1 then 208 else j) G0F (fun _ _ => rfl) Tryz.func130 rfl Tryz.call130 (by simp [idsV, idsA, idsF, ids0]) (by rw [e0]; exact G0_closed _) ?_ (by simp [Tryz.ntmps130]) (by omega) (by rw [e0]; exact fun x hx => G0_big x (by omega)) (fun j hj => ?_) ?_ ?_ ?_ ?_
  · refine ⟨by simp [idsV, idsA, idsF, ids0, extD, keys], by simp [keys]; omega, fun q b c h1 h2 => ?_⟩
    simp at h1 h2
    rcases h1 with ⟨e1, rfl⟩ | ⟨e1, rfl⟩ <;> rcases h2 with ⟨e2, rfl⟩ | ⟨e2, rfl⟩ <;> first | rfl | omega
  · rw [e0] at hj; have := G0_dom hj; rw [if_neg (by omega), if_neg (by omega)]
  · simp [e0, dom]
  · simp
  · simp [wb, ids_lit, idsF, ids0]
  · intro C hC hC0 hY
    rw [e0]
    repeat' (first | apply gwS | simp only [wN, wM, Nat.reduceAdd, Nat.reduceMul] | ((first | refine gwR [] ?_ | refine gwD [] ?_); intro Q hQ hP; simp [hC, hY]; (first | refine hQ _ _ _ _ (by kernel_rfl) ?_ | refine hP _ _ (by kernel_rfl) fun _ => ?_); clear hQ hP Q) | apply gwB | apply gwT | apply gwK | apply gwE | apply gwG | apply gwL | simp only [blockG_exit] | (refine gwC ?_ ?_ <;> (intro hb; first | (cases hb; done) | skip)))
    refine ⟨.inr trivial, ?_⟩
    simp [Tryz.results130, ren, renA, renF, ren0, wb]
    intro j hj
    have := G0_dom hj
    rw [if_neg (by omega), if_neg (by omega)]
theorem uz_bd (z : Int) : 0 ≤ uz z ∧ uz z < 2 ^ 256 := by unfold uz; omega
def shN (a b : Int) : Int := nbits (uz a) - nbits (uz b)
theorem shN_bd (a b : Int) : -256 ≤ shN a b ∧ shN a b ≤ 256 := by
  have h1 := nbits_bd 256 (uz_bd a).2
  have h2 := nbits_bd 256 (uz_bd b).2
  unfold shN; omega
def shXs (b N : Int) : List (Array Value) := (List.range (N + 1).toNat).map fun (i : Nat) => #[.int .i64 (N - (i : Int)), wd (b * 2 ^ (N - (i : Int)).toNat)]
theorem shXs_len (b N : Int) : (shXs b N).length = (N + 1).toNat := by simp [shXs]
theorem shXs_at (b N : Int) (i : Nat) (h : i < (N + 1).toNat) : (shXs b N)[i]? = some #[.int .i64 (N - i), wd (b * 2 ^ (N - i).toNat)] := by
  simp [shXs, h]
def shSt (a b N : Int) (l i : Nat) : GS :=
  ⟨tsL [(0, .func (.yield l) #[] #[]), (1, .pointer (some ⟨100, 0, none⟩)), (2, .pointer (some ⟨101, 0, none⟩)), (4, .int .i64 (N - i))], wHp a b, 300, i⟩
theorem shifts_it (a b : Int) (hlt : shN a b < 256) : IterG Tryz.prog G0 134 #[.pointer (some ⟨100, 0, none⟩), .pointer (some ⟨101, 0, none⟩)] (wHp a b) [100, 101] (shXs b (shN a b)) := by
  have e0 : rst (wHp a b) [100, 101] = wHp a b := hpL_rst G0F (by simp)
  refine iter_of (B := 200) (v := .tuple #[]) G0F (fun k hk => hpL_low (by simp) hk) Tryz.func134 rfl Tryz.call134 ?_ ?_ (by simp [Tryz.ntmps134]) (by omega) ?_ ?_
  · rw [e0]; simp [idsV, idsA, idsF, ids0, dom, wHp]
  · rw [e0]
    intro k c hk
    rcases hpL_mem hk with h | h
    · simp at h
      rcases h with ⟨_, rfl⟩ | ⟨_, rfl⟩ <;> simp [wb, ids_lit, idsF, ids0]
    · exact Blk.flat_ids ((G0F k c h).2)
  · rw [e0]
    intro x hx
    have h1 : ¬ x = 100 := by omega
    have h2 : ¬ x = 101 := by omega
    have h3 : 100 ≤ x := by omega
    simp [wHp, h1, h2, h3]
  · intro C l stop hC hC0 hY
    rw [e0] at hC0 ⊢
    have hbd := shN_bd a b
    have hN : Int.bmod (nbits (uz a) - nbits (uz b)) 18446744073709551616 = shN a b := bm (by unfold shN at hbd; omega) (by unfold shN at hbd; omega)
    have hlen := shXs_len b (shN a b)
    generalize hn : shN a b = N at *
    generalize hxs : shXs b N = xs at *
    refine GW_scope' 0 (fun m s => ∃ i, i ≤ stop ∧ i + m = xs.length ∧ s = shSt a b N l i) rfl ?_ ?_
    · rintro m _ ⟨i, hi, him, rfl⟩
      have hi256 : (i : Int) ≤ 257 := by omega
      by_cases hl : i < xs.length
      · have g1 : (i : Int) ≤ N := by omega
        have g2 : N - (i : Int) < 256 := by omega
        have g4 : Int.bmod (N - (i : Int) - 1) 18446744073709551616 = N - ((i + 1 : Nat) : Int) := by rw [bm (by omega) (by omega)]; omega
        have hx : xs[i]? = some #[.int .i64 (N - (i : Int)), wd (b * 2 ^ (N - (i : Int)).toNat)] := by
          rw [← hxs]; exact shXs_at b N i (by omega)
        simp only [wd_eq] at hx
        by_cases hs : i = stop
        · have q1 : (i != stop) = false := by simp [hs]
          unfold shSt
          repeat' (first | apply gwS | simp only [wN, wM, Nat.reduceAdd, Nat.reduceMul] | ((first | refine gwR [] ?_ | refine gwD [] ?_); intro Q hQ hP; simp [hC, hY, wHp, wb, hi, g1, g2, hx, q1]; (first | refine hQ _ _ _ _ (by kernel_rfl) ?_ | refine hP _ _ (by kernel_rfl) fun _ => ?_); clear hQ hP Q) | apply gwB | apply gwT | apply gwK | apply gwE | apply gwG | apply gwL | simp only [blockG_exit] | (refine gwC ?_ ?_ <;> (intro hb; first | (cases hb; done) | skip)))
          refine ⟨.inl trivial, by simp [Tryz.results134], ?_⟩
          show i + 1 = _
          omega
        · have q1 : (i != stop) = true := by simp [hs]
          unfold shSt
          repeat' (first | apply gwS | simp only [wN, wM, Nat.reduceAdd, Nat.reduceMul] | ((first | refine gwR [] ?_ | refine gwD [] ?_); intro Q hQ hP; simp [hC, hY, wHp, wb, hi, g1, g2, g4, hx, q1]; (first | refine hQ _ _ _ _ (by kernel_rfl) ?_ | refine hP _ _ (by kernel_rfl) fun _ => ?_); clear hQ hP Q) | apply gwB | apply gwT | apply gwK | apply gwE | apply gwG | apply gwL | simp only [blockG_exit] | (refine gwC ?_ ?_ <;> (intro hb; first | (cases hb; done) | skip)))
          refine ⟨rfl, shSt a b N l (i + 1), xs.length - (i + 1), weakL _ 300 hC G0F (m := [(100, wb a), (101, wb b)]) (m0 := [(100, wb a), (101, wb b)]) hC0 (by omega) ?_ ?_ ?_, ⟨i + 1, by omega, by omega, rfl⟩, by omega⟩
          · simp [dom]
          · simp [wb]
          · simp [wb]
      · have g1 : ¬ (i : Int) ≤ N := by omega
        unfold shSt
        repeat' (first | apply gwS | simp only [wN, wM, Nat.reduceAdd, Nat.reduceMul] | ((first | refine gwR [] ?_ | refine gwD [] ?_); intro Q hQ hP; simp [hC, hY, wHp, wb, g1]; (first | refine hQ _ _ _ _ (by kernel_rfl) ?_ | refine hP _ _ (by kernel_rfl) fun _ => ?_); clear hQ hP Q) | apply gwB | apply gwT | apply gwK | apply gwE | apply gwG | apply gwL | simp only [blockG_exit] | (refine gwC ?_ ?_ <;> (intro hb; first | (cases hb; done) | skip)))
        refine ⟨.inl trivial, by simp [Tryz.results134], ?_⟩
        show i = _
        omega
    · intro pass
      refine GW_seq ?_
      ((first | refine gwR [] ?_ | refine gwD [] ?_); intro Q hQ hP; simp [hC, hY, wHp, wb, hN]; (first | refine hQ _ _ _ _ (by kernel_rfl) ?_ | refine hP _ _ (by kernel_rfl) fun _ => ?_); clear hQ hP Q)
      simp only [wN, wM, Nat.reduceAdd, Nat.reduceMul]
      refine GW_seq (GW_label ?_)
      simp only [thenG_normal]
      refine pass xs.length (shSt a b N l 0) _ ?_ ⟨0, by omega, by omega, rfl⟩
      refine weakL _ 300 hC G0F (m := [(100, wb a), (101, wb b)]) (m0 := [(100, wb a), (101, wb b)]) hC0 (by omega) ?_ ?_ ?_
      · simp [dom]
      · simp [wb]
      · simp [wb]

theorem sz_id {z : Int} (h0 : -57896044618658097711785492504343953926634992332820282019728792003956564819968 ≤ z) (h1 : z < 57896044618658097711785492504343953926634992332820282019728792003956564819968) : sz z = z := by
  unfold sz; rw [Int.bmod_def]; split <;> omega
theorem sz_pos {z : Int} (h0 : 0 ≤ z) (h1 : z < 57896044618658097711785492504343953926634992332820282019728792003956564819968) : sz z = z := sz_id (Int.le_trans (by decide) h0) h1
theorem div_step (a M : Int) (hM : 0 < M) : (M ≤ a % (2 * M) → a % M = a % (2 * M) - M ∧ a / M = 2 * (a / (2 * M)) + 1) ∧ (a % (2 * M) < M → a % M = a % (2 * M) ∧ a / M = 2 * (a / (2 * M))) := by
  have h1 := Int.emod_add_mul_ediv a (2 * M)
  have h2 := Int.emod_nonneg a (b := 2 * M) (by omega)
  have h3 := Int.emod_lt_of_pos a (b := 2 * M) (by omega)
  have e : 2 * M * (a / (2 * M)) = M * (2 * (a / (2 * M))) := by rw [Int.mul_comm 2 M, Int.mul_assoc]
  rw [e] at h1
  generalize a % (2 * M) = r at *
  generalize 2 * (a / (2 * M)) = k at *
  constructor
  · intro h
    have ea : a = (r - M) + M * (k + 1) := by rw [Int.mul_add]; omega
    constructor
    · rw [ea, Int.add_mul_emod_self_left, Int.emod_eq_of_lt (by omega) (by omega)]
    · rw [ea, Int.add_mul_ediv_left _ _ (by omega), Int.ediv_eq_zero_of_lt (by omega) (by omega)]; omega
  · intro h
    have ea : a = r + M * k := by omega
    constructor
    · rw [ea, Int.add_mul_emod_self_left, Int.emod_eq_of_lt (by omega) (by omega)]
    · rw [ea, Int.add_mul_ediv_left _ _ (by omega), Int.ediv_eq_zero_of_lt (by omega) (by omega)]; omega
theorem pow_pos2 (k : Nat) : (0 : Int) < 2 ^ k := Int.pow_pos (by omega)
theorem wi_bit (c : Int) (t r : Nat) (hr : r < 64) : bitI .or .u64 (wi (c * 2 ^ (64 * t + r + 1)) t) (2 ^ r) = wi (c * 2 ^ (64 * t + r + 1) + 2 ^ (64 * t + r)) t := by
  have e1 : c * 2 ^ (64 * t + r + 1) / 2 ^ (64 * t) = c * 2 ^ (r + 1) := by
    rw [show 64 * t + r + 1 = (r + 1) + 64 * t by omega, Int.pow_add, ← Int.mul_assoc, Int.mul_ediv_cancel _ (by have := pow_pos2 (64 * t); omega)]
  have e2 : (c * 2 ^ (64 * t + r + 1) + 2 ^ (64 * t + r)) / 2 ^ (64 * t) = c * 2 ^ (r + 1) + 2 ^ r := by
    have x1 : (2 : Int) ^ (64 * t + r + 1) = 2 ^ (r + 1) * 2 ^ (64 * t) := by rw [← Int.pow_add]; congr 1; omega
    have x2 : (2 : Int) ^ (64 * t + r) = 2 ^ r * 2 ^ (64 * t) := by rw [← Int.pow_add]; congr 1; omega
    rw [x1, x2, ← Int.mul_assoc, ← Int.add_mul, Int.mul_ediv_cancel _ (by have := pow_pos2 (64 * t); omega)]
  have hM : (18446744073709551616 : Int) = 2 ^ (63 - r) * 2 ^ (r + 1) := by rw [← Int.pow_add, show 63 - r + (r + 1) = 64 by omega]; rfl
  have hdvd : (2 : Int) ^ (r + 1) ∣ 18446744073709551616 := ⟨2 ^ (63 - r), by rw [hM, Int.mul_comm]⟩
  have hp := pow_pos2 r
  have hp1 : (2 : Int) ^ (r + 1) = 2 * 2 ^ r := by rw [Int.pow_succ, Int.mul_comm]
  have h5 : (c * 2 ^ (r + 1)) % 18446744073709551616 % 2 ^ (r + 1) = 0 := by rw [Int.emod_emod_of_dvd _ hdvd, Int.mul_emod_left]
  have h6 := Int.emod_nonneg (c * 2 ^ (r + 1)) (b := 18446744073709551616) (by omega)
  have h7 := Int.emod_lt_of_pos (c * 2 ^ (r + 1)) (b := 18446744073709551616) (by omega)
  have h8 : (c * 2 ^ (r + 1)) % 18446744073709551616 ≤ 18446744073709551616 - 2 ^ (r + 1) := by
    obtain ⟨d, hd⟩ := Int.dvd_of_emod_eq_zero h5
    rw [hd] at h7 ⊢
    have hs := pow_pos2 (63 - r)
    have hq := pow_pos2 (r + 1)
    rw [hM] at h7 ⊢
    generalize (2 : Int) ^ (r + 1) = P at *
    generalize (2 : Int) ^ (63 - r) = S at *
    rw [Int.mul_comm S P] at h7 ⊢
    have : d < S := Int.lt_of_mul_lt_mul_left h7 (by omega)
    have : P * d ≤ P * (S - 1) := Int.mul_le_mul_of_nonneg_left (by omega) (by omega)
    rw [Int.mul_sub, Int.mul_one] at this
    exact this
  unfold wi
  rw [e1, e2, or_add (R := r + 1) h6 h7 h5 (by omega) (by omega) (by omega), Int.add_emod (c * 2 ^ (r + 1)), Int.emod_eq_of_lt (a := 2 ^ r) (by omega) (by omega), Int.emod_eq_of_lt (a := c * 2 ^ (r + 1) % 18446744073709551616 + 2 ^ r) (by omega) (by omega)]
theorem wi_other (c : Int) (t r j : Nat) (hr : r < 64) (h : j ≠ t) : wi (c * 2 ^ (64 * t + r + 1) + 2 ^ (64 * t + r)) j = wi (c * 2 ^ (64 * t + r + 1)) j := by
  unfold wi
  by_cases hj : j < t
  · obtain ⟨m, rfl⟩ : ∃ m, t = j + 1 + m := ⟨t - (j + 1), by omega⟩
    have e : (2 : Int) ^ (64 * (j + 1 + m) + r) = (2 ^ (64 * m + r) * 18446744073709551616) * 2 ^ (64 * j) := by
      rw [show 64 * (j + 1 + m) + r = 64 * m + r + 64 + 64 * j by omega, Int.pow_add, Int.pow_add]; rfl
    rw [Int.pow_succ, e, show c * (2 ^ (64 * m + r) * 18446744073709551616 * 2 ^ (64 * j) * 2) = (c * 2 * 2 ^ (64 * m + r) * 18446744073709551616) * 2 ^ (64 * j) by
      simp only [Int.mul_assoc, Int.mul_comm, Int.mul_left_comm], ← Int.add_mul, Int.mul_ediv_cancel _ (by have := pow_pos2 (64 * j); omega), Int.mul_ediv_cancel _ (by have := pow_pos2 (64 * j); omega), ← Int.add_mul, Int.mul_emod_left, Int.mul_emod_left]
  · obtain ⟨m, rfl⟩ : ∃ m, j = t + 1 + m := ⟨j - (t + 1), by omega⟩
    have e : (2 : Int) ^ (64 * (t + 1 + m)) = 2 ^ (64 * t + r + 1) * 2 ^ (64 * m + (63 - r)) := by
      rw [← Int.pow_add]; congr 1; omega
    have hp := pow_pos2 (64 * t + r)
    have hq : (2 : Int) ^ (64 * t + r + 1) = 2 * 2 ^ (64 * t + r) := by rw [Int.pow_succ, Int.mul_comm]
    have hc : (c * 2 ^ (64 * t + r + 1) + 2 ^ (64 * t + r)) / 2 ^ (64 * t + r + 1) = c := by
      rw [Int.add_comm, Int.add_mul_ediv_right _ _ (by omega), Int.ediv_eq_zero_of_lt (by omega) (by omega)]; omega
    rw [e, ← Int.ediv_ediv_of_nonneg (Int.le_of_lt (pow_pos2 _)), ← Int.ediv_ediv_of_nonneg (Int.le_of_lt (pow_pos2 _)), hc, Int.mul_ediv_cancel _ (by omega)]
def rA (a b : Int) (k : Nat) : Int := a % (b * 2 ^ k)
def qA (a b : Int) (k : Nat) : Int := a / (b * 2 ^ k) * 2 ^ k
theorem dA_step (a b : Int) (hb : 0 < b) (k : Nat) : (b * 2 ^ k ≤ rA a b (k + 1) → rA a b k = rA a b (k + 1) - b * 2 ^ k ∧ qA a b k = qA a b (k + 1) + 2 ^ k) ∧ (rA a b (k + 1) < b * 2 ^ k → rA a b k = rA a b (k + 1) ∧ qA a b k = qA a b (k + 1)) := by
  have hp := pow_pos2 k
  have e : b * 2 ^ (k + 1) = 2 * (b * 2 ^ k) := by rw [Int.pow_succ, ← Int.mul_assoc, Int.mul_comm]
  have e2 : ∀ x : Int, x * 2 ^ (k + 1) = 2 * x * 2 ^ k := fun x => by rw [Int.pow_succ, Int.mul_comm (2 ^ k), ← Int.mul_assoc, Int.mul_comm x 2]
  have h := div_step a (b * 2 ^ k) (Int.mul_pos hb hp)
  unfold rA qA
  rw [e, e2]
  refine ⟨fun h1 => ?_, fun h1 => ?_⟩
  · obtain ⟨h2, h3⟩ := h.1 h1
    exact ⟨h2, by rw [h3, Int.add_mul, Int.one_mul]⟩
  · obtain ⟨h2, h3⟩ := h.2 h1
    exact ⟨h2, by rw [h3]⟩
theorem dA_end (a b : Int) : rA a b 0 = a % b ∧ qA a b 0 = a / b := by simp [rA, qA]
theorem dA_begin (a b : Int) (k : Nat) (h0 : 0 ≤ a) (h : a < b * 2 ^ k) : rA a b k = a ∧ qA a b k = 0 := by
  unfold rA qA
  rw [Int.emod_eq_of_lt h0 h, Int.ediv_eq_zero_of_lt h0 h]
  simp
theorem shN_up (a b : Int) (ha0 : 0 ≤ a) (hb0 : 0 < b) (ha : a < 2 ^ 256) (hb : b < 2 ^ 256) : a < b * 2 ^ (shN a b + 1).toNat ∧ (0 ≤ shN a b → b * 2 ^ (shN a b).toNat < 2 ^ (nbits a).toNat) := by
  have ea : uz a = a := by unfold uz; omega
  have eb : uz b = b := by unfold uz; omega
  unfold shN
  rw [ea, eb]
  obtain ⟨j, hj, j1, j2⟩ := nbits_pos hb0
  by_cases h0 : a = 0
  · subst h0
    have e0 : nbits 0 = 0 := rfl
    rw [e0, hj]
    exact ⟨Int.mul_pos hb0 (pow_pos2 _), fun h => by omega⟩
  · obtain ⟨k, hk, k1, k2⟩ := nbits_pos (x := a) (by omega)
    rw [hk, hj]
    refine ⟨?_, fun h => ?_⟩
    · by_cases hkj : j ≤ k + 1
      · have e : ((k : Int) + 1 - (j + 1) + 1).toNat = k + 1 - j := by omega
        rw [e]
        refine Int.lt_of_lt_of_le k2 ?_
        have h3 : (2 : Int) ^ (k + 1) = 2 ^ j * 2 ^ (k + 1 - j) := by rw [← Int.pow_add]; congr 1; omega
        rw [h3]
        exact Int.mul_le_mul_of_nonneg_right j1 (Int.le_of_lt (pow_pos2 _))
      · have e : ((k : Int) + 1 - (j + 1) + 1).toNat = 0 := by omega
        rw [e, Int.pow_zero, Int.mul_one]
        refine Int.lt_of_lt_of_le k2 (Int.le_trans ?_ j1)
        exact_mod_cast Nat.pow_le_pow_right (by omega) (by omega : k + 1 ≤ j)
    · have e : ((k : Int) + 1 - (j + 1)).toNat = k - j := by omega
      have e' : ((k : Int) + 1).toNat = k + 1 := by omega
      rw [e, e']
      have h3 : (2 : Int) ^ (k + 1) = 2 ^ (j + 1) * 2 ^ (k - j) := by rw [← Int.pow_add]; congr 1; omega
      rw [h3]
      exact Int.mul_lt_mul_of_pos_right j2 (pow_pos2 _)
end Go.Gy
