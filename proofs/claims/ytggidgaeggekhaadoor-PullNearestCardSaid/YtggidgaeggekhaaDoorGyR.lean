/-
  The ghost layer, part R: a range over a function: an iterator's contract, and the loop over it.
  Conditions: none beyond the hypotheses of each theorem.
-/
import Derived.Test.YtggidgaeggekhaaDoorGyF
namespace Go.Gy
open Go Go.RowKit

section
variable {P : Program} {G : Hp}

/-- **AN ITERATOR's CONTRACT**: with 'caps' captured, where the blocks rs lie as hp says, it hands out xs, one after the other, till a round says 'no more'; what it looks at it leaves as it was. -/
structure IterX (pn : Option Value) (P : Program) (G : Hp) (f : FuncId) (caps : Array Value) (hp : Hp) (rs : List Nat) (xs : List (Array Value)) : Prop where
  enter : ∀ a w, (callFunc f a).run P w = .ok (.enter f a) w
  cids : ∀ x ∈ caps, plain0 x = true ∧ idsV (dom (rst hp rs)) x
  closed : ∀ k b, rst hp rs k = some b → b.ids (dom (rst hp rs))
  run : ∀ (E : Ext) (l stop : Nat) r S W, GOK G W → Sat r (dom (rst hp rs)) (rst hp rs) W → Inj r (dom (rst hp rs)) → (∀ k, k < 100 → dom (rst hp rs) k → r k = k) → (pn ≠ none → stop < xs.length) → Rounds P G E ⟨l, xs, stop, pn⟩ → E.X 0 S W → (∀ k, S k → k < W.heap.size) →
    (∀ i, dom (rst hp rs) i → 100 ≤ i → ¬ S (r i)) →
    CallsS P f (#[Value.func (.yield l) #[] #[]] ++ caps.map (ren r)) W fun e W' => match pn with
      | none => (∃ v, e = .returned v) ∧ ∃ S', E.X (min (stop + 1) xs.length) S' W'
      | some pv => e = .panicked [{ v := pv, recovered := false }] ∧ ∃ c S', E.X c S' W'
abbrev IterG (P : Program) (G : Hp) (f : FuncId) (caps : Array Value) (hp : Hp) (rs : List Nat) (xs : List (Array Value)) : Prop := IterX none P G f caps hp rs xs
abbrev IterP (P : Program) (G : Hp) (f : FuncId) (caps : Array Value) (hp : Hp) (rs : List Nat) (xs : List (Array Value)) : Prop := ∀ pv, IterX (some pv) P G f caps hp rs xs

theorem iterx_of (pn : Option Value) {f : FuncId} {fn : Func} {c : Code} {caps : Array Value} {hp : Hp} {rs : List Nat} {xs : List (Array Value)} {B : Nat} {v : Value} (hGF : GFlat G) (hG : ∀ k, k < 100 → hp k = G k) (hf : P.funcs[f]? = some fn) (hb : fn.body = some c) (hcall : ∀ a w, (callFunc f a).run P w = .ok (.enter f a) w)
    (ha : ∀ x ∈ caps, plain0 x = true ∧ idsV (dom (rst hp rs)) x) (hcl : ∀ k b, rst hp rs k = some b → b.ids (dom (rst hp rs))) (hn : caps.size + 1 ≤ fn.ntmps) (hB : 100 ≤ B) (hfree : ∀ x, B ≤ x → rst hp rs x = none)
    (h : ∀ (C : Ctx) (l stop : Nat), C.G = G → C.hp0 = rst hp rs → (pn ≠ none → stop < xs.length) → C.Y = some ⟨l, xs, stop, pn⟩ → GW P C fn.ntmps [] none c ⟨fun t => (#[Value.func (.yield l) #[] #[]] ++ caps).getD t undef, rst hp rs, B, 0⟩
      (fun e s => match pn with
        | none => (e = .normal ∨ e = .ret) ∧ resG P fn.results.toList s.ts s.hp = some v ∧ s.yc = min (stop + 1) xs.length
        | some pv => e = .panic [{ v := pv, recovered := false }])) : IterX pn P G f caps hp rs xs := by
  refine ⟨hcall, ha, hcl, fun E l stop r S W hgok hsat hinj hlow hlen hR hX hS hdis => callsIn_of_wp_marks hf hb ⟨fn, hf⟩ ?_⟩
  let C : Ctx := ⟨E, rst hp rs, r, G, some ⟨l, xs, stop, pn⟩⟩
  have hi : GI P C fn.ntmps [] r ⟨fun t => (#[Value.func (.yield l) #[] #[]] ++ caps).getD t undef, rst hp rs, B, 0⟩
      { tmps := (#[Value.func (.yield l) #[] #[]] ++ caps.map (ren r)) ++ Array.replicate (fn.ntmps - (#[Value.func (.yield l) #[] #[]] ++ caps.map (ren r)).size) undef, defers := [] } W := by
    have hsz : (#[Value.func (.yield l) #[] #[]] ++ caps.map (ren r)).size = (#[Value.func (.yield l) #[] #[]] ++ caps).size := by simp
    have hmap : #[Value.func (.yield l) #[] #[]] ++ caps.map (ren r) = (#[Value.func (.yield l) #[] #[]] ++ caps).map (ren r) := by simp [ren, renA, renF]
    refine ⟨⟨?_, fun t => ?_, hsat, hinj, ⟨S, [], hX, hS, fun i hi h1 => hdis i hi h1, ⟨rfl, List.nodup_nil⟩, by simp⟩, fun i hi => ⟨hi, rfl⟩, fun k hk => ?_, hlow⟩, hfree, hB, hGF, fun y hy => by cases hy; exact hR⟩
    · simp only [Array.size_append, Array.size_replicate, hsz]
      simp
      omega
    · right
      dsimp only
      rw [hmap]
      generalize hA : #[Value.func (.yield l) #[] #[]] ++ caps = A
      have hAi : ∀ x ∈ A, idsV (dom (rst hp rs)) x := fun x hx => by
        rw [← hA] at hx
        rcases Array.mem_append.1 hx with hx | hx
        · simp at hx; subst hx; simp [idsV, idsA, idsF]
        · exact (ha x hx).2
      by_cases ht : t < A.size
      · have hm : A[t] ∈ A := Array.getElem_mem ht
        have e : A.getD t undef = A[t] := by simp [Array.getD, ht]
        rw [e]
        refine ⟨?_, hAi _ hm⟩
        have : t < (A.map (ren r)).size := by simpa using ht
        simp [Array.getElem?_append_left this, ht]
      · have e : A.getD t undef = undef := by simp [Array.getElem?_eq_none (Nat.le_of_not_lt ht)]
        rw [e]
        refine ⟨?_, ids_undef _⟩
        rw [ren_undef]
        simp only [Array.getD_eq_getD_getElem?]
        rw [Array.getElem?_append_right (by simpa using Nat.le_of_not_lt ht), Array.getElem?_replicate]
        split <;> rfl
    · show rst hp rs k = G k
      simp [rst, hk, hG k hk]
  refine wpIn_mono (h C l stop rfl rfl hlen rfl r _ W hi) ?_
  rintro e a' W' ⟨s', r', hres, hi'⟩
  obtain ⟨S', ms, hX', hS1, hS2, ⟨hdef, hnd⟩, hms⟩ := hi'.ri.ext
  cases pn with
  | none =>
    obtain ⟨he, hr, hy⟩ := hres
    have hend : ∀ W'' : World, W''.heap.size = W'.heap.size → W''.os = W'.os → W''.tape = W'.tape → W''.output = W'.output → (∀ k, k ∉ ms → W''.heap[k]? = W'.heap[k]?) →
        LeavesIn (Fw P none) 0 P fn a'.tmps (fun e W' => (∃ v, e = .returned v) ∧ ∃ S', E.X (min (stop + 1) xs.length) S' W') [] .returning W'' := fun W'' e1 e2 e3 e4 e5 => by
      have hsat' : Sat r' (dom s'.hp) s'.hp W'' := fun k b hk => ⟨by
        rw [e5 _ (fun hm => hi'.ri.ne_mark (by unfold dom; rw [hk]; simp) (hms _ hm).1 rfl)]
        exact (hi'.ri.sat k b hk).1, (hi'.ri.sat k b hk).2⟩
      refine ⟨_, run_resG' (fn := fn) hi'.ri.rel hsat' hr, ⟨_, rfl⟩, S', ?_⟩
      rw [← hy]
      exact E.ok _ _ _ _ hX' (fun k hk => e5 k fun hm => (hms k hm).2.1 hk) e2 e3 e4 (by rw [e1]; exact Nat.le_refl _)
    rcases he with rfl | rfl
    · show LeavesInM _ _ _ _ _ _ a'.defers _ _
      rw [hdef, List.append_nil]
      exact leavesM (by simp) ms W' hnd (fun D hD => (hms D hD).1) hend
    · show LeavesInM _ _ _ _ _ _ a'.defers _ _
      rw [hdef, List.append_nil]
      exact leavesM (by simp) ms W' hnd (fun D hD => (hms D hD).1) hend
  | some pv =>
    subst hres
    show LeavesInM _ _ _ _ _ _ a'.defers _ _
    rw [hdef, List.append_nil]
    refine leavesM (by simp) ms W' hnd (fun D hD => (hms D hD).1) fun W'' e1 e2 e3 e4 e5 => ?_
    exact ⟨rfl, _, S', E.ok _ _ _ _ hX' (fun k hk => e5 k fun hm => (hms k hm).2.1 hk) e2 e3 e4 (by rw [e1]; exact Nat.le_refl _)⟩
theorem iter_of {f : FuncId} {fn : Func} {c : Code} {caps : Array Value} {hp : Hp} {rs : List Nat} {xs : List (Array Value)} {B : Nat} {v : Value} (hGF : GFlat G) (hG : ∀ k, k < 100 → hp k = G k) (hf : P.funcs[f]? = some fn) (hb : fn.body = some c) (hcall : ∀ a w, (callFunc f a).run P w = .ok (.enter f a) w)
    (ha : ∀ x ∈ caps, plain0 x = true ∧ idsV (dom (rst hp rs)) x) (hcl : ∀ k b, rst hp rs k = some b → b.ids (dom (rst hp rs))) (hn : caps.size + 1 ≤ fn.ntmps) (hB : 100 ≤ B) (hfree : ∀ x, B ≤ x → rst hp rs x = none)
    (h : ∀ (C : Ctx) (l stop : Nat), C.G = G → C.hp0 = rst hp rs → C.Y = some ⟨l, xs, stop, none⟩ → GW P C fn.ntmps [] none c ⟨fun t => (#[Value.func (.yield l) #[] #[]] ++ caps).getD t undef, rst hp rs, B, 0⟩
      (fun e s => (e = .normal ∨ e = .ret) ∧ resG P fn.results.toList s.ts s.hp = some v ∧ s.yc = min (stop + 1) xs.length)) : IterG P G f caps hp rs xs :=
  iterx_of none (v := v) hGF hG hf hb hcall ha hcl hn hB hfree fun C l stop h1 h2 _ h3 => h C l stop h1 h2 h3
theorem iterp_of {f : FuncId} {fn : Func} {c : Code} {caps : Array Value} {hp : Hp} {rs : List Nat} {xs : List (Array Value)} {B : Nat} (hGF : GFlat G) (hG : ∀ k, k < 100 → hp k = G k) (hf : P.funcs[f]? = some fn) (hb : fn.body = some c) (hcall : ∀ a w, (callFunc f a).run P w = .ok (.enter f a) w)
    (ha : ∀ x ∈ caps, plain0 x = true ∧ idsV (dom (rst hp rs)) x) (hcl : ∀ k b, rst hp rs k = some b → b.ids (dom (rst hp rs))) (hn : caps.size + 1 ≤ fn.ntmps) (hB : 100 ≤ B) (hfree : ∀ x, B ≤ x → rst hp rs x = none)
    (h : ∀ (pv : Value) (C : Ctx) (l stop : Nat), C.G = G → C.hp0 = rst hp rs → stop < xs.length → C.Y = some ⟨l, xs, stop, some pv⟩ → GW P C fn.ntmps [] none c ⟨fun t => (#[Value.func (.yield l) #[] #[]] ++ caps).getD t undef, rst hp rs, B, 0⟩
      (fun e _ => e = .panic [{ v := pv, recovered := false }])) : IterP P G f caps hp rs xs := fun pv =>
  iterx_of (some pv) (v := undef) hGF hG hf hb hcall ha hcl hn hB hfree fun C l stop h1 h2 hl h3 => h pv C l stop h1 h2 (hl (by simp)) h3

/-- A round's slots. -/
def roundTs (ps : List Tmp) (x : List Value) (ts : Nat → Value) : Nat → Value := (ps.zip x).foldl (fun ts p => upd ts p.1 p.2) ts

/-- The way in which a loop is left from within a round. -/
def outCode : Exit → Option Code
  | .ret => some .ret
  | .exit id => some (.exit id)
  | .goto l => some (.goto l)
  | _ => none

variable {C : Ctx} {n : Nat} {d : List Deferred} {s : GS} {K : Exit → GS → Prop}

theorem Weak.ctx {C C' : Ctx} {s s' : GS} (h : C.hp0 = C'.hp0) (hG : C.G = C'.G) (hw : Weak C s s') : Weak C' s s' := ⟨hw.ts, hw.hp, hw.ids, by rw [← h]; exact hw.keep, by rw [← hG]; exact hw.glob, hw.yc, hw.free, hw.low⟩

def Supp (S : Nat → Prop) (W : World) (Φ : World → Prop) : Prop :=
  ∀ W' : World, (∀ k, S k → W'.heap[k]? = W.heap[k]?) → W'.os = W.os → W'.tape = W.tape → W'.output = W.output → W.heap.size ≤ W'.heap.size → Φ W'
theorem Supp.trans {S S' : Nat → Prop} {W W' : World} {Φ : World → Prop} (h : Supp S W Φ) (hs : ∀ k, S k → S' k) (h1 : ∀ k, S k → W'.heap[k]? = W.heap[k]?) (h2 : W'.os = W.os) (h3 : W'.tape = W.tape) (h4 : W'.output = W.output) (h5 : W.heap.size ≤ W'.heap.size) : Supp S' W' Φ :=
  fun W'' k1 k2 k3 k4 k5 => h W'' (fun k hk => (k1 k (hs k hk)).trans (h1 k hk)) (k2.trans h2) (k3.trans h3) (k4.trans h4) (Nat.le_trans h5 k5)
theorem Supp.here {S : Nat → Prop} {W : World} {Φ : World → Prop} (h : Supp S W Φ) : Φ W := h W (fun _ _ => rfl) rfl rfl rfl (Nat.le_refl _)

/-- The owner's activation, between two rounds: the parts that stay. -/
structure Own0 (C : Ctx) (d : List Deferred) (So : Nat → Prop) (ms : List Nat) (yc : Nat) (a : Act) (r : Nat → Nat) (ts : Nat → Value) (hp : Hp) (V : World) : Prop where
  ri : Rel r (dom hp) ts a
  sat : Sat r (dom hp) hp V
  inj : Inj r (dom hp)
  X : C.E.X yc So V
  sep : ∀ i, dom hp i → 100 ≤ i → ¬ So (r i)
  mks : ∀ D ∈ ms, V.heap[D]? = some (.deferred (some []))
  keep : ∀ i, dom C.hp0 i → dom hp i ∧ r i = C.r0 i
  glob : ∀ k, k < 100 → hp k = C.G k
  low : ∀ k, k < 100 → dom hp k → r k = k

theorem Own0.supp {So : Nat → Prop} {ms : List Nat} {yc : Nat} {a : Act} {r : Nat → Nat} {ts : Nat → Value} {hp : Hp} {V : World} {S : Nat → Prop} (h : Own0 C d So ms yc a r ts hp V) (h1 : ∀ k, So k → S k) (h2 : ∀ i, dom hp i → S (r i)) (h3 : ∀ D ∈ ms, S D) : Supp S V (Own0 C d So ms yc a r ts hp) :=
  fun W' k1 k2 k3 k4 k5 => ⟨h.ri, fun k b hk => ⟨(k1 _ (h2 k (by unfold dom; rw [hk]; simp))).trans (h.sat k b hk).1, (h.sat k b hk).2⟩, h.inj, C.E.ok _ _ _ _ h.X (fun k hk => k1 k (h1 k hk)) k2 k3 k4 k5, h.sep, fun D hD => (k1 D (h3 D hD)).trans (h.mks D hD), h.keep, h.glob, h.low⟩

theorem foldl_set_size : ∀ (l : List (Tmp × Value)) (A : Array Value), (l.foldl (fun t (p : Tmp × Value) => t.setIfInBounds p.1 p.2) A).size = A.size
  | [], _ => rfl
  | p :: l, A => by rw [List.foldl_cons, foldl_set_size l]; simp

theorem roundRel {r : Nat → Nat} {D : Nat → Prop} : ∀ (l : List (Tmp × Value)) (ts : Nat → Value) (A : Array Value), (∀ p ∈ l, p.1 < A.size ∧ flatV p.2 = true) → Rel r D ts { tmps := A, defers := [] } →
    Rel r D (l.foldl (fun ts p => upd ts p.1 p.2) ts) { tmps := l.foldl (fun t (p : Tmp × Value) => t.setIfInBounds p.1 p.2) A, defers := [] }
  | [], _, _, _, h => h
  | p :: l, ts, A, hl, h => by
    have hp := hl p (by simp)
    refine roundRel l (upd ts p.1 p.2) (A.setIfInBounds p.1 p.2) (fun q hq => by simpa using hl q (List.mem_cons_of_mem _ hq)) ?_
    have := h.put (dst := some p.1) (fun d hd => by cases hd; exact hp.1) (flatV_ids (D := D) hp.2)
    rw [flatV_ren hp.2] at this
    exact this

def imO (r : Nat → Nat) (hp : Hp) : Nat → Prop := fun j => ∃ i, dom hp i ∧ r i = j

theorem RI.not_loop {C : Ctx} {r : Nat → Nat} {ts : Nat → Value} {hp : Hp} {yc : Nat} {a : Act} {V : World} (h : RI C n d r ts hp yc a V) {l : Nat} {L : Loop} (hl : V.heap[l]? = some (.loop L)) : ¬ imO r hp l := by
  rintro ⟨i, hd, rfl⟩
  unfold dom at hd
  cases hb : hp i with
  | none => exact hd hb
  | some b => have := (h.sat i b hb).1; rw [hl] at this; cases this

/-- What a round leaves. -/
theorem round_end {d0 : List Deferred} {So S : Nat → Prop} {ms : List Nat} {yc y1 y2 n0 : Nat} {a a1 a2 : Act} {V V1 V2 : World} {rc r1 r2 : Nat → Nat} {tsE ts1 ts2 : Nat → Value} {hpc hp1 hp2 : Hp} {l : Nat} {L0 L1 L2 : Loop} (hGF : GFlat C.G)
    (hown : Own0 C d0 So ms yc a rc tsE hpc V) (hSol : ¬ So l) (hSV : ∀ k, S k → k < V.heap.size) (kSo : ∀ k, So k → S k) (kms : ∀ D ∈ ms, S D) (hrcS : ∀ i, dom hpc i → S (rc i)) (hl : V.heap[l]? = some (.loop L0))
    (ri1 : RI ⟨callE V (imO rc hpc), hpc, rc, C.G, none⟩ n0 [] r1 ts1 hp1 y1 a1 V1)
    {D1 : Nat → Prop} (hD1 : ∀ k, k < V.heap.size → D1 k → imO r1 hp1 k) (hD1l : ¬ D1 l) (ri2 : RI ⟨callE (V1.putObj l (.loop L1)) D1, hpc, rc, C.G, none⟩ n0 [] r2 ts2 hp2 y2 a2 V2) :
    V1.heap[l]? = some (.loop L0) ∧ V2.heap[l]? = some (.loop L1) ∧ Own0 C d0 So ms yc a r2 tsE hp2 (V2.putObj l (.loop L2)) ∧ (∀ i, dom hp2 i → V.heap.size ≤ r2 i ∨ S (r2 i)) ∧ V.heap.size ≤ V2.heap.size ∧
      (∀ k, k < V.heap.size → ¬ imO rc hpc k → k ≠ l → (V2.putObj l (.loop L2)).heap[k]? = V.heap[k]?) ∧ GOK C.G (V2.putObj l (.loop L2)) := by
  obtain ⟨T1, m1, ⟨hT1, os1, tp1, ou1, sz1, sm1⟩, hT1s, sep1, _, _⟩ := ri1.ext
  obtain ⟨T2, m2, ⟨hT2, os2, tp2, ou2, sz2, sm2⟩, hT2s, sep2, _, _⟩ := ri2.ext
  have hlV : l < V.heap.size := (Array.getElem?_eq_some_iff.1 hl).1
  have hl0 : ¬ imO rc hpc l := by
    rintro ⟨i, hd, rfl⟩
    unfold dom at hd
    cases hb : hpc i with
    | none => exact hd hb
    | some b => have := (hown.sat i b hb).1; rw [hl] at this; cases this
  have hl1 : V1.heap[l]? = some (.loop L0) := (sm1 l ((hT1 l).2 ⟨hlV, hl0⟩)).trans hl
  have hl1i : ¬ imO r1 hp1 l := ri1.not_loop hl1
  have hlt1 : l < V1.heap.size := (Array.getElem?_eq_some_iff.1 hl1).1
  have szp : (V1.putObj l (.loop L1)).heap.size = V1.heap.size := putObj_size _ _ _
  have hl2 : V2.heap[l]? = some (.loop L1) := (sm2 l ((hT2 l).2 ⟨by rw [szp]; exact hlt1, hD1l⟩)).trans (World.putObj_heap_same hlt1)
  have size : V.heap.size ≤ V2.heap.size := by rw [szp] at sz2; omega
  have g1 : ∀ k, k < 100 → hp1 k = C.G k := ri1.glob
  have g2 : ∀ k, k < 100 → hp2 k = C.G k := ri2.glob
  have gc := hown.glob
  have eqd : ∀ {h h' : Hp} {k : Nat}, h k = h' k → dom h k → dom h' k := fun {h h' k} e hd => by unfold dom at *; rw [← e]; exact hd
  -- an old place of a new state is an old place of an old state
  have im1 : ∀ k, k < V.heap.size → imO r1 hp1 k → imO rc hpc k := fun k hk ⟨i, hd, e⟩ => by
    by_cases h1 : 100 ≤ i
    · have := sep1 i hd h1
      rw [hT1, e] at this
      exact Classical.byContradiction fun hc => this ⟨hk, hc⟩
    · have hd' : dom hpc i := eqd ((g1 i (by omega)).trans (gc i (by omega)).symm) hd
      exact ⟨i, hd', by rw [← e, ri1.low i (by omega) hd, hown.low i (by omega) hd']⟩
  have im2 : ∀ k, k < V.heap.size → imO r2 hp2 k → imO rc hpc k := fun k hk ⟨i, hd, e⟩ => by
    by_cases h1 : 100 ≤ i
    · have := sep2 i hd h1
      rw [hT2, e, szp] at this
      exact im1 k hk (hD1 k hk (Classical.byContradiction fun hc => this ⟨by omega, hc⟩))
    · have hd' : dom hpc i := eqd ((g2 i (by omega)).trans (gc i (by omega)).symm) hd
      exact ⟨i, hd', by rw [← e, ri2.low i (by omega) hd, hown.low i (by omega) hd']⟩
  have keep2 : ∀ i, dom hpc i → dom hp2 i ∧ r2 i = rc i := ri2.keep
  have old : ∀ i, dom hp2 i → r2 i < V.heap.size → dom hpc i ∧ r2 i = rc i := fun i hd hlt => by
    obtain ⟨q, hq, e⟩ := im2 _ hlt ⟨i, hd, rfl⟩
    have := keep2 q hq
    have e2 : q = i := ri2.inj q i this.1 hd (this.2.trans e)
    subst e2
    exact ⟨hq, this.2⟩
  have frame : ∀ k, k < V.heap.size → ¬ imO rc hpc k → k ≠ l → (V2.putObj l (.loop L2)).heap[k]? = V.heap[k]? := fun k hk hi hne => by
    rw [World.putObj_heap_other hne, sm2 k ((hT2 k).2 ⟨by rw [szp]; omega, fun hc => hi (im1 k hk (hD1 k hk hc))⟩), World.putObj_heap_other hne, sm1 k ((hT1 k).2 ⟨hk, hi⟩)]
  have sat2 : Sat r2 (dom hp2) hp2 (V2.putObj l (.loop L2)) := fun k b hk => by
    have h := ri2.sat k b hk
    exact ⟨(World.putObj_heap_other (fun e => ri2.not_loop hl2 ⟨k, by unfold dom; rw [hk]; simp, e⟩)).trans h.1, h.2⟩
  have gok : ∀ {r : Nat → Nat} {h : Hp} {W : World}, Sat r (dom h) h W → (∀ k, k < 100 → h k = C.G k) → (∀ k, k < 100 → dom h k → r k = k) → GOK C.G W := fun {r h W} h1 h2 h3 k b hk => by
    obtain ⟨hlt, hfl⟩ := hGF k b hk
    have hb : h k = some b := (h2 k hlt).trans hk
    have h9 := (h1 k b hb).1
    rw [h3 k hlt (by unfold dom; rw [hb]; simp)] at h9
    rw [h9]
    unfold Blk.obj
    rw [map_eq_self (fun x hx => flatF_ren (hfl x hx))]
  have gok2 := gok sat2 g2 ri2.low
  have gokV := gok hown.sat gc hown.low
  refine ⟨hl1, hl2, ⟨hown.ri.mono (fun k hk => (keep2 k hk).1) (fun k hk => (keep2 k hk).2), sat2, ri2.inj, ?_, fun i hd h1 hS => ?_, fun D hD => ?_, fun i hi => ?_, g2, ri2.low⟩, fun i hd => ?_, size, frame, gok2⟩
  · refine C.E.ok _ _ _ _ hown.X (fun k hk => ?_) (os2.trans os1) (tp2.trans tp1) (ou2.trans ou1) (by rw [putObj_size]; exact size)
    by_cases hi : imO rc hpc k
    · obtain ⟨i, hd, rfl⟩ := hi
      by_cases h1 : 100 ≤ i
      · exact absurd hk (hown.sep i hd h1)
      · have e := hown.low i (by omega) hd
        rw [e]
        have hg : C.G i ≠ none := by rw [← gc i (by omega)]; exact hd
        cases hb : C.G i with
        | none => exact absurd hb hg
        | some b => rw [gok2 i b hb, gokV i b hb]
    · by_cases hkl : k = l
      · exact absurd (hkl ▸ hk) hSol
      · exact frame k (hSV k (kSo k hk)) hi hkl
  · have hlt := hSV _ (kSo _ hS)
    have := old i hd hlt
    exact hown.sep i this.1 h1 (this.2 ▸ hS)
  · have hD' := hown.mks D hD
    rw [frame D (hSV D (kms D hD)) (fun ⟨i, hd, e⟩ => ?_) (fun e => by rw [e, hl] at hD'; cases hD')]
    · exact hD'
    · unfold dom at hd
      cases hb : hpc i with
      | none => exact hd hb
      | some b => have := (hown.sat i b hb).1; rw [e, hD'] at this; cases this
  · have := hown.keep i hi
    have k2 := keep2 i this.1
    exact ⟨k2.1, k2.2.trans this.2⟩
  · by_cases hlt : r2 i < V.heap.size
    · have := old i hd hlt
      exact .inr (by rw [this.2]; exact hrcS i this.1)
    · exact .inl (by omega)

theorem putObj_id {W : World} {l : Nat} {ob : Obj} (h : W.heap[l]? = some ob) : W.putObj l ob = W := by
  unfold World.putObj
  congr 1
  apply Array.ext_getElem?
  intro i
  rw [Array.getElem?_setIfInBounds]
  split
  · rename_i e; subst e
    rw [h]
    obtain ⟨hlt, _⟩ := Array.getElem?_eq_some_iff.1 h
    simp [hlt]
  · rfl

/-- As 'roundPost', and a panic. -/
def roundPostP (F : Fence) (m : Nat) (P : Program) (fn : Func) (l : Nat) (R : Ending → World → Prop) : Exit → Act → World → Prop
  | .panic chain, a, w => LeavesInM F m P fn a.tmps (fun e w' => (∃ ch, e = .panicked ch) ∧ R e w') a.defers (.panicking chain) w
  | e, a, w => roundPost P l R e a w
theorem roundIn_of_wpInP {F : Fence} {m : Nat} {l : Nat} {f : FuncId} {fn : Func} {tmps : Array Value} {assign body : Code} {w : World} {R : Ending → World → Prop} (hF : F.fn f) (hfn : P.funcs[f]? = some fn)
    (h : assign.wpIn (F.inRound l) m P (Exit.then (fun a₁ w₁ => ∃ w₂, (Instr.beginRound l).run P w₁ = .ok () w₂ ∧ body.wpIn (F.inRound l) m P (roundPostP F m P fn l R) a₁ w₂) (fun _ _ _ => False))
      { tmps := tmps, defers := [] } w) :
    RoundIn F m P l f tmps assign body w R := by
  refine ⟨hF, fun c cs hr => ?_⟩
  let b : Frame := { (default : Frame) with fn := f, kind := .normal, roundOf := some l }
  have hb0 : Frame.round l f tmps assign body .normal = b.atR { tmps := tmps, defers := [] } [.code assign, .beginRound, .code body] := by
    simp [Frame.round, Frame.atR, b]
  have hr' : (F.inRound l).room ((c :: cs).length + 1 + m) := hr
  have hF' : (F.inRound l).fn b.fn := hF
  obtain ⟨e, a₁, w₁, hq, harr⟩ := h b [.beginRound, .code body] (c :: cs) rfl hF' hr'
  rw [← hb0] at harr
  cases e with
  | normal =>
    obtain ⟨w₂, hbr, hbody⟩ := hq
    have s1 : StepsIn (Machine.fenced P (F.inRound l)) P (lone (b.atR a₁ [.beginRound, .code body]) (c :: cs) w₁) (lone (b.atR a₁ [.code body]) (c :: cs) w₂) :=
      .one (fenced_calm (fr := b.atR a₁ [.beginRound, .code body]) hF' hr' rfl) (stepR_beginRound rfl hbr)
    obtain ⟨e₂, a₂, w₃, hq₂, harr₂⟩ := hbody b [] (c :: cs) rfl hF' hr'
    cases e₂ with
    | normal =>
      obtain ⟨v, w₄, hend, hR⟩ := hq₂
      exact ⟨.returned v, w₄, hR, (StepsIn.trans harr s1).trans (StepsIn.trans harr₂ (.one (fenced_calm (fr := b.atR a₂ []) hF' hr' rfl) (stepR_round_end rfl rfl hend)))⟩
    | ret =>
      obtain ⟨v, w₄, hend, hR⟩ := hq₂
      obtain ⟨k₁, hs⟩ := harr₂.2 rfl
      exact ⟨.returned v, w₄, hR, (StepsIn.trans harr s1).trans (StepsIn.trans hs (.one (fenced_calm (fr := b.atR a₂ (.code .ret :: k₁)) hF' hr' rfl) (stepR_round_ret rfl rfl hend)))⟩
    | exit id =>
      obtain ⟨v, w₄, hend, hR⟩ := hq₂
      obtain ⟨k₁, hk, hs⟩ := harr₂.2 rfl rfl
      exact ⟨.returned v, w₄, hR, (StepsIn.trans harr s1).trans (StepsIn.trans hs (.one (fenced_calm (fr := b.atR a₂ (.code (.exit id) :: k₁)) hF' hr' rfl) (stepR_round_exit rfl rfl hk hend)))⟩
    | goto t =>
      obtain ⟨v, w₄, hend, hR⟩ := hq₂
      obtain ⟨k₁, hk, hs⟩ := harr₂.2 rfl rfl
      exact ⟨.returned v, w₄, hR, (StepsIn.trans harr s1).trans (StepsIn.trans hs (.one (fenced_calm (fr := b.atR a₂ (.code (.goto t) :: k₁)) hF' hr' rfl) (stepR_round_goto rfl rfl hk hend)))⟩
    | panic chain =>
      obtain ⟨todo, hs⟩ := harr₂
      obtain ⟨e', w₄, fr', ⟨⟨ch, rfl⟩, hR⟩, hs', hfn', hl⟩ := leaves_stepsInM a₂.defers (.panicking chain) w₃ { b.atR a₂ todo with mode := .panicking chain } (c :: cs) rfl rfl rfl hfn rfl hF hr hq₂
      refine ⟨.panicked ch, w₄, hR, (StepsIn.trans harr s1).trans (StepsIn.trans hs (StepsIn.trans hs' (.one (fenced_leaving (n := m) (hfn' ▸ hF) hr hl) (step_leave_panicked hl))))⟩
    | outgrown => exact hq₂.elim
  | exit id => exact hq.elim
  | goto t => exact hq.elim
  | ret => exact hq.elim
  | panic chain => exact hq.elim
  | outgrown => exact hq.elim

/-- **A RANGE OVER A FUNCTION**, in an activation that is itself no iterator's. hps i: the blocks at the head of round i; N: how many rounds go to their end. -/
theorem GW_rangeX (pn : Option Value) {t : Tmp} {ps : Array Tmp} {assign body : Code} {f : FuncId} {caps : Array Value} {rs : List Nat} {xs : List (Array Value)} (hg : s.ts t = .func (.func f) #[] caps) (hit : IterX pn P C.G f caps s.hp rs xs)
    (hxs : ∀ x ∈ xs, x.size = ps.size ∧ ∀ v ∈ x, flatV v = true) (hps : ∀ p ∈ ps, p < n) (tsE : Nat → Value) (hp : Nat → Hp) (B : Nat) (N : Nat) (hN : N ≤ xs.length)
    (hw : Weak C s ⟨tsE, hp 0, B, s.yc⟩) (hdis : ∀ k ∈ rs, hp 0 k = none ∧ dom s.hp k) (hids : ∀ i, i ≤ N → ∀ t, idsV (dom (hp i)) (tsE t))
    (rounds : ∀ i x, i < N → xs[i]? = some x → ∀ (C1 : Ctx) (l : Nat), C1.G = C.G → C1.hp0 = hp i → C1.Y = none → GW P C1 n [] (some l) assign ⟨roundTs ps.toList x.toList tsE, hp i, B, 0⟩
      (thenG (fun s1 => ∀ C2 : Ctx, C2.G = C.G → C2.hp0 = hp i → C2.Y = none → GW P C2 n [] (some l) body s1 (thenG (fun s2 => Weak C1 s2 ⟨fun _ => junk, hp (i + 1), B, s2.yc⟩) (fun _ _ => False))) (fun _ _ => False)))
    (fin : match pn with
      | none => (N = xs.length ∧ K .normal ⟨tsE, hp N, B, s.yc⟩) ∨ ∃ x, xs[N]? = some x ∧ ∀ (C1 : Ctx) (l : Nat), C1.G = C.G → C1.hp0 = hp N → C1.Y = none → GW P C1 n [] (some l) assign ⟨roundTs ps.toList x.toList tsE, hp N, B, 0⟩
        (thenG (fun s1 => ∀ C2 : Ctx, C2.G = C.G → C2.hp0 = hp N → C2.Y = none → GW P C2 n [] (some l) body s1 (fun e s2 => (outCode e).isSome = true ∧ (∀ t, idsV (dom s2.hp) (tsE t)) ∧ K e ⟨tsE, s2.hp, s2.B, s.yc⟩)) (fun _ _ => False))
      | some pv => (∀ c, c ≤ N → K (.panic [{ v := pv, recovered := false }]) ⟨tsE, hp c, B, s.yc⟩) ∧ ∃ x, xs[N]? = some x ∧ ∀ (C1 : Ctx) (l : Nat), C1.G = C.G → C1.hp0 = hp N → C1.Y = none → GW P C1 n [] (some l) assign ⟨roundTs ps.toList x.toList tsE, hp N, B, 0⟩
        (thenG (fun s1 => ∀ C2 : Ctx, C2.G = C.G → C2.hp0 = hp N → C2.Y = none → GW P C2 n [] (some l) body s1 (fun e s2 => e = .panic [{ v := pv, recovered := false }] ∧ (∀ t, idsV (dom s2.hp) (tsE t)) ∧ K e ⟨tsE, s2.hp, s2.B, s.yc⟩)) (fun _ _ => False))) (hYn : C.Y ≠ some .still := by first | assumption | (intro h; simp_all [YG.still])) :
    GW P C n d none (.rangeFunc (.tmp t) ps assign body) s K := by
  intro r a W hi0
  have hi := hi0.weak hw
  obtain ⟨So, ms, hX0, hSo, hsep, ⟨hdef, hnd⟩, hms⟩ := hi0.ri.ext
  have hcapv : a.eval (.tmp t) = .func (.func f) #[] (caps.map (ren0 r)) := by
    have := ((hi0.ri.rel t).resolve_left (by rw [hg]; simp [junk])).1
    rw [hg] at this
    simpa [ren, renA, renF, Act.eval] using this
  have hcap : caps.map (ren0 r) = caps.map (ren r) := Array.map_congr_left fun x hx => (ren_plain0 (hit.cids x hx).1).symm
  rw [hcap] at hcapv
  refine wpIn_rangeFunc ?_
  rintro fn ⟨fnn, hfnn⟩
  obtain ⟨rec, hrec⟩ : ∃ rec : LoopState → Option Code → Loop, rec = fun st pe => { state := st, pending := pe, fn, tmps := a.tmps, params := ps, assign, body, defers := W.heap.size } := ⟨_, rfl⟩
  obtain ⟨W1, hW1⟩ : ∃ W1, (W.alloc (.deferred (some []))).alloc (.loop (rec .ready none)) = W1 := ⟨_, rfl⟩
  have hL1 : W1.heap[W.heap.size + 1]? = some (.loop (rec .ready none)) := by
    rw [← hW1]; have := World.alloc_heap_new (W.alloc (.deferred (some []))) (.loop (rec .ready none)); rwa [World.size_alloc] at this
  have hK1 : W1.heap[W.heap.size]? = some (.deferred (some [])) := by
    rw [← hW1]; exact (Below.heap_alloc _ _ _ (by simp)).trans (World.alloc_heap_new W _)
  have hsz1 : W1.heap.size = W.heap.size + 2 := by rw [← hW1]; simp
  have hb1 : Below W.heap.size W W1 := by
    rw [← hW1]; exact (((Below.refl _ W).alloc (Nat.le_refl _) _).alloc (by simp) _)
  let l := W.heap.size + 1
  let D0 := W.heap.size
  let capd : Nat → Prop := fun j => ∃ i, i ∈ rs ∧ 100 ≤ i ∧ r i = j
  -- what is said between two rounds
  let Lv : LoopState → Option Code → World → Prop := fun st pe V => V.heap[l]? = some (.loop (rec st pe)) ∧ V.heap[D0]? = some (.deferred (some []))
  let XX : Nat → (Nat → Prop) → World → Prop := fun c S V => (∀ k, So k → S k) ∧ (∀ D ∈ ms, S D) ∧ S l ∧ S D0 ∧
    ((c ≤ N ∧ (∀ x, B ≤ x → hp c x = none) ∧ ∃ rc, (∀ i, dom (hp c) i → S (rc i)) ∧ Supp S V (fun V' => Own0 C d So ms s.yc a rc tsE (hp c) V' ∧ Lv .ready none V')) ∨
     (c = N + 1 ∧ ∃ e hpE BE rc, ((pn = none ∧ (outCode e).isSome = true) ∨ ∃ pv, pn = some pv ∧ e = .panic [{ v := pv, recovered := false }]) ∧ K e ⟨tsE, hpE, BE, s.yc⟩ ∧ (∀ x, BE ≤ x → hpE x = none) ∧ 100 ≤ BE ∧ (∀ i, dom hpE i → S (rc i)) ∧ Supp S V (fun V' => Own0 C d So ms s.yc a rc tsE hpE V' ∧ V'.heap[D0]? = some (.deferred (some [])) ∧ ∀ j, outCode e = some j → Lv .done (some j) V')))
  let E : Ext := ⟨XX, fun c S V V' h hs os tape output size => ⟨h.1, h.2.1, h.2.2.1, h.2.2.2.1, h.2.2.2.2.imp (fun ⟨hc, hf, rc, h1, h2⟩ => ⟨hc, hf, rc, h1, h2.trans (fun _ h => h) hs os tape output size⟩)
    (fun ⟨hc, e, hpE, BE, rc, h1, h2, h3, h4, h5, h6⟩ => ⟨hc, e, hpE, BE, rc, h1, h2, h3, h4, h5, h6.trans (fun _ h => h) hs os tape output size⟩)⟩⟩
  have sub : ∀ i, dom (hp 0) i → dom s.hp i := fun i hd => by
    have hhp : hp 0 i = none ∨ hp 0 i = s.hp i := by
      by_cases hk : 100 ≤ i
      · exact hw.hp i hk
      · exact .inr ((hw.glob i (by omega)).trans (hi0.ri.glob i (by omega)).symm)
    rcases hhp with e | e
    · exact absurd e hd
    · have e : hp 0 i = s.hp i := e
      unfold dom at *; rw [← e]; exact hd
  have own0 : Own0 C d So ms s.yc a r tsE (hp 0) W1 := ⟨hi.ri.rel, fun k b hk => ⟨(hb1.block _ (hi.ri.lt (k := k) (by unfold dom; show hp 0 k ≠ none; rw [hk]; simp))).trans (hi.ri.sat k b hk).1, (hi.ri.sat k b hk).2⟩, hi.ri.inj,
    C.E.ok _ _ _ _ hX0 (fun k hk => hb1.block k (hSo k hk)) hb1.os hb1.tape hb1.output hb1.size, fun i hd h1 => hsep i (sub i hd) h1,
    fun D hD => (hb1.block D (Array.getElem?_eq_some_iff.1 (hms D hD).1).1).trans (hms D hD).1, hi.ri.keep, hi.ri.glob, hi.ri.low⟩
  have incap : ∀ i, dom s.hp i → capd (r i) → i ∈ rs := fun i hd ⟨j, hj, _, e⟩ => by
    have := hi0.ri.inj j i (hdis j hj).2 hd e
    exact this ▸ hj
  let S1 : Nat → Prop := fun k => k < W1.heap.size ∧ ¬ capd k
  have capSmall : ∀ k, capd k → k < W.heap.size := fun k ⟨i, hi1, _, e⟩ => e ▸ hi0.ri.lt (hdis i hi1).2
  have s1So : ∀ k, So k → S1 k := fun k hk => ⟨by have := hSo k hk; omega, fun ⟨i, hi1, h1, e⟩ => hsep i (hdis i hi1).2 h1 (e ▸ hk)⟩
  have s1ms : ∀ D ∈ ms, S1 D := fun D hD => ⟨by have := (Array.getElem?_eq_some_iff.1 (hms D hD).1).1; omega, fun ⟨i, hi1, _, e⟩ => hi0.ri.ne_mark (hdis i hi1).2 (hms D hD).1 e⟩
  have s1l : S1 l := ⟨by omega, fun hc => by have := capSmall _ hc; omega⟩
  have s1D : S1 D0 := ⟨by omega, fun hc => by have := capSmall _ hc; omega⟩
  have s1hp : ∀ i, dom (hp 0) i → S1 (r i) := fun i hd => ⟨by have := hi0.ri.lt (sub i hd); omega, fun hc => hd (hdis i (incap i (sub i hd) hc)).1⟩
  have X0 : XX 0 S1 W1 := ⟨s1So, s1ms, s1l, s1D, .inl ⟨Nat.zero_le _, hw.free, r, s1hp, fun V k1 k2 k3 k4 k5 => ⟨own0.supp s1So s1hp s1ms V k1 k2 k3 k4 k5, (k1 l s1l).trans hL1, (k1 D0 s1D).trans hK1⟩⟩⟩
  have gokOf : ∀ {rc : Nat → Nat} {hpc : Hp} {V : World}, Sat rc (dom hpc) hpc V → (∀ k, k < 100 → hpc k = C.G k) → (∀ k, k < 100 → dom hpc k → rc k = k) → GOK C.G V := fun {rc hpc V} h1 h2 h3 k b hk => by
    obtain ⟨hlt, hfl⟩ := hi0.flat k b hk
    have hb : hpc k = some b := (h2 k hlt).trans hk
    have h9 := (h1 k b hb).1
    rw [h3 k hlt (by unfold dom; rw [hb]; simp)] at h9
    rw [h9]
    unfold Blk.obj
    rw [map_eq_self (fun x hx => flatF_ren (hfl x hx))]
  -- one round
  have hround : Rounds P C.G E ⟨l, xs, N, pn⟩ := by
    intro c x S V hgok hx hc hXc hSV
    obtain ⟨kSo, kms, kl, kD, hcase⟩ := hXc
    have hcN : c ≤ N := hc
    obtain ⟨hc', hfreeC, rc, hrcS, hsupp⟩ : c ≤ N ∧ (∀ x, B ≤ x → hp c x = none) ∧ ∃ rc, (∀ i, dom (hp c) i → S (rc i)) ∧ Supp S V (fun V' => Own0 C d So ms s.yc a rc tsE (hp c) V' ∧ Lv .ready none V') := by
      rcases hcase with h | h
      · exact h
      · omega
    obtain ⟨hown, hl, hD⟩ := hsupp.here
    have hxm := hxs x (List.mem_of_getElem? hx)
    have hy := run_yield (P := P) (args := x) hl (by rw [hrec]; exact hxm.1)
    rw [hrec] at hy
    refine ⟨fn, _, assign, body, hy, roundIn_of_wpInP ⟨fnn, hfnn⟩ hfnn ?_⟩
    have hrel := roundRel (r := rc) (D := dom (hp c)) (ps.toList.zip x.toList) tsE a.tmps (fun p hp1 => ⟨by rw [hi0.ri.size]; exact hps _ (by simpa using (List.of_mem_zip hp1).1), hxm.2 _ (by simpa using (List.of_mem_zip hp1).2)⟩) hown.ri
    have htm : (ps.zip x).foldl (fun t (p : Tmp × Value) => t.setIfInBounds p.1 p.2) a.tmps = (ps.toList.zip x.toList).foldl (fun t (p : Tmp × Value) => t.setIfInBounds p.1 p.2) a.tmps := by
      rw [← Array.foldl_toList, Array.toList_zip]
    have hsize : ((ps.zip x).foldl (fun t (p : Tmp × Value) => t.setIfInBounds p.1 p.2) a.tmps).size = n := by
      rw [htm, foldl_set_size, hi0.ri.size]
    let im : Nat → Prop := imO rc (hp c)
    let RR : Ending → World → Prop := fun e W' => (match (YG.mk l xs N pn).pan c with | none => e = .returned (.bool (c != N)) | some pv => e = .panicked [{ v := pv, recovered := false }]) ∧ GOK C.G W' ∧ V.heap.size ≤ W'.heap.size ∧ (∀ k, k < V.heap.size → ¬ S k → W'.heap[k]? = V.heap[k]?) ∧
            ∃ S', XX (c + 1) S' W' ∧ (∀ k, S' k → k < W'.heap.size) ∧ ∀ k, S' k → k < V.heap.size → S k
    -- the assignment to the loop's variables
    let C1 : Ctx := ⟨callE V im, hp c, rc, C.G, none⟩
    have ltV : ∀ i, dom (hp c) i → rc i < V.heap.size := fun i hd => hSV _ (hrcS i hd)
    have gi1 : GI P C1 n [] rc ⟨roundTs ps.toList x.toList tsE, hp c, B, 0⟩ { tmps := (ps.zip x).foldl (fun t (p : Tmp × Value) => t.setIfInBounds p.1 p.2) a.tmps, defers := [] } V := by
      refine ⟨⟨hsize, ?_, hown.sat, hown.inj, ⟨fun k => k < V.heap.size ∧ ¬ im k, [], ⟨fun _ => Iff.rfl, rfl, rfl, rfl, Nat.le_refl _, fun _ _ => rfl⟩, fun k hk => hk.1, fun i hd _ hS => hS.2 ⟨i, hd, rfl⟩, ⟨rfl, List.nodup_nil⟩, by simp⟩, fun i hd => ⟨hd, rfl⟩, hown.glob, hown.low⟩, hfreeC, hw.low, hi0.flat, fun y hy => by cases hy⟩
      rw [htm]; exact hrel
    have hSol : ¬ So l := fun h => by have := hSo _ h; omega
    -- a round's frame, from its assignment on
    have both : ∀ (Kb : Exit → GS → Prop), GW P C1 n [] (some l) assign ⟨roundTs ps.toList x.toList tsE, hp c, B, 0⟩ (thenG (fun s1 => ∀ C2 : Ctx, C2.G = C.G → C2.hp0 = hp c → C2.Y = none → GW P C2 n [] (some l) body s1 Kb) (fun _ _ => False)) →
        (∀ e s2 (r2 : Nat → Nat) (V1 V2 : World) (a1 a2 : Act) (r1 : Nat → Nat) (ts1 : Nat → Value) (hp1 : Hp) (y1 : Nat) (D1 : Nat → Prop), (∀ k, k < V.heap.size → D1 k → imO r1 hp1 k) → ¬ D1 l → Kb e s2 → RI ⟨callE V im, hp c, rc, C.G, none⟩ n [] r1 ts1 hp1 y1 a1 V1 →
          GI P ⟨callE (V1.putObj l (.loop (rec .busy none))) D1, hp c, rc, C.G, none⟩ n [] r2 s2 a2 V2 → roundPostP (Fs P) 0 P fnn l RR e a2 V2) →
        assign.wpIn ((Fs P).inRound l) 0 P (Exit.then (fun a₁ w₁ => ∃ w₂, (Instr.beginRound l).run P w₁ = .ok () w₂ ∧ body.wpIn ((Fs P).inRound l) 0 P (roundPostP (Fs P) 0 P fnn l RR) a₁ w₂) (fun _ _ _ => False))
          { tmps := (ps.zip x).foldl (fun t (p : Tmp × Value) => t.setIfInBounds p.1 p.2) a.tmps, defers := [] } V := fun Kb hgw hend => by
      refine wpIn_mono (hgw rc _ V gi1) ?_
      rintro e a1 V1 ⟨s1, r1, hk1, gi⟩
      cases e with
      | normal =>
        obtain ⟨T1, m1, ⟨hT1, os1, tp1, ou1, sz1, sm1⟩, hT1s, sep1, df1, dm1⟩ := gi.ri.ext
        have hl1 : V1.heap[l]? = some (.loop (rec .ready none)) := by
          rw [sm1 l ((hT1 l).2 ⟨hSV l kl, ?_⟩)]
          · exact hl
          · rintro ⟨i, hd, e⟩
            unfold dom at hd
            cases hb : hp c i with
            | none => exact hd hb
            | some b => have := (hown.sat i b hb).1; rw [e, hl] at this; cases this
        refine ⟨_, run_beginRound hl1 (by rw [hrec]), ?_⟩
        have hrb : { rec .ready none with state := .busy } = rec .busy none := by rw [hrec]
        rw [hrb]
        have hlt1 : l < V1.heap.size := (Array.getElem?_eq_some_iff.1 hl1).1
        let D1 : Nat → Prop := fun k => imO r1 s1.hp k ∨ k ∈ m1
        let C2 : Ctx := ⟨callE (V1.putObj l (.loop (rec .busy none))) D1, hp c, rc, C.G, none⟩
        have gi2 : GI P C2 n [] r1 s1 a1 (V1.putObj l (.loop (rec .busy none))) := by
          refine ⟨⟨gi.ri.size, gi.ri.rel, fun k b hk => ⟨(World.putObj_heap_other (fun e => gi.ri.not_loop hl1 ⟨k, by unfold dom; rw [hk]; simp, e⟩)).trans (gi.ri.sat k b hk).1, (gi.ri.sat k b hk).2⟩, gi.ri.inj,
            ⟨fun k => k < (V1.putObj l (.loop (rec .busy none))).heap.size ∧ ¬ D1 k, m1, ⟨fun _ => Iff.rfl, rfl, rfl, rfl, Nat.le_refl _, fun _ _ => rfl⟩, fun k hk => hk.1, fun i hd _ hS => hS.2 (.inl ⟨i, hd, rfl⟩), df1, fun D hD => ⟨?_, (fun hS => hS.2 (.inr hD)), fun h => nomatch h⟩⟩,
            fun i hd => gi.ri.keep i hd, gi.ri.glob, gi.ri.low⟩, gi.free, gi.low, gi.flat, fun y hy => by cases hy⟩
          rw [World.putObj_heap_other (fun e => ?_)]
          · exact (dm1 D hD).1
          · have := (dm1 D hD).1; rw [e, hl1] at this; cases this
        refine wpIn_mono (hk1 C2 rfl rfl rfl r1 a1 _ gi2) ?_
        rintro e2 a2 V2 ⟨s2, r2, hk2, gi3⟩
        refine hend e2 s2 r2 V1 V2 a1 a2 r1 s1.ts s1.hp s1.yc D1 (fun k hk hD => ?_) (fun hD => ?_) hk2 gi.ri gi3
        · rcases hD with h | h
          · exact h
          · have h2 := (dm1 k h).2.1
            rw [hT1] at h2
            obtain ⟨i, hd, e⟩ := Classical.byContradiction fun hc => h2 ⟨hk, hc⟩
            have h3 := (dm1 k h).1
            by_cases h100 : 100 ≤ i
            · have : dom s1.hp i ∧ r1 i = rc i := gi.ri.keep i hd
              exact ⟨i, this.1, this.2.trans e⟩
            · have : dom s1.hp i ∧ r1 i = rc i := gi.ri.keep i hd
              exact ⟨i, this.1, this.2.trans e⟩
        · rcases hD with h | h
          · exact gi.ri.not_loop hl1 h
          · have := (dm1 l h).1; rw [hl1] at this; cases this
      | _ => exact hk1.elim
    -- what a round leaves, put together
    have post : ∀ (st : LoopState) (pe : Option Code) (r2 : Nat → Nat) (V1 V2 : World) (a1 a2 : Act) (r1 : Nat → Nat) (ts1 ts2 : Nat → Value) (hp1 hp2 : Hp) (y1 y2 : Nat) (D1 : Nat → Prop), (∀ k, k < V.heap.size → D1 k → imO r1 hp1 k) → ¬ D1 l → RI ⟨callE V im, hp c, rc, C.G, none⟩ n [] r1 ts1 hp1 y1 a1 V1 →
        RI ⟨callE (V1.putObj l (.loop (rec .busy none))) D1, hp c, rc, C.G, none⟩ n [] r2 ts2 hp2 y2 a2 V2 →
        V2.heap[l]? = some (.loop (rec .busy none)) ∧ GOK C.G (V2.putObj l (.loop (rec st pe))) ∧ V.heap.size ≤ (V2.putObj l (.loop (rec st pe))).heap.size ∧ (∀ k, k < V.heap.size → ¬ S k → (V2.putObj l (.loop (rec st pe))).heap[k]? = V.heap[k]?) ∧
        ∃ S' : Nat → Prop, (∀ k, So k → S' k) ∧ (∀ D ∈ ms, S' D) ∧ S' l ∧ S' D0 ∧ (∀ i, dom hp2 i → S' (r2 i)) ∧ Supp S' (V2.putObj l (.loop (rec st pe))) (fun V' => Own0 C d So ms s.yc a r2 tsE hp2 V' ∧ Lv st pe V') ∧
          (∀ k, S' k → k < (V2.putObj l (.loop (rec st pe))).heap.size) ∧ ∀ k, S' k → k < V.heap.size → S k := fun st pe r2 V1 V2 a1 a2 r1 ts1 ts2 hp1 hp2 y1 y2 D1 hD1 hD1l ri1 ri2 => by
      obtain ⟨_, q1, q2, q3, q4, q5, q6⟩ := round_end (L2 := rec st pe) hi0.flat hown hSol hSV kSo kms hrcS hl ri1 hD1 hD1l ri2
      have sz : (V2.putObj l (.loop (rec st pe))).heap.size = V2.heap.size := putObj_size _ _ _
      have hnim : ∀ k, ¬ S k → ¬ imO rc (hp c) k := fun k hk ⟨i, hd, e⟩ => hk (e ▸ hrcS i hd)
      refine ⟨q1, q6, by rw [sz]; exact q4, fun k hk hnS => q5 k hk (hnim k hnS) (fun e => hnS (e ▸ kl)), fun k => S k ∨ (V.heap.size ≤ k ∧ k < V2.heap.size), fun k hk => .inl (kSo k hk), fun D hD => .inl (kms D hD), .inl kl, .inl kD, fun i hd => ?_, ?_, fun k hk => ?_, fun k hk hlt => ?_⟩
      · rcases q3 i hd with h | h
        · exact .inr ⟨h, by
            unfold dom at hd
            cases hb : hp2 i with
            | none => exact absurd hb hd
            | some b => have := (Array.getElem?_eq_some_iff.1 (q2.sat i b hb).1).1; rwa [sz] at this⟩
        · exact .inl h
      · have hD0 : (V2.putObj l (.loop (rec st pe))).heap[D0]? = some (.deferred (some [])) := by
          rw [q5 D0 (hSV D0 kD) (fun ⟨i, hd', e⟩ => by
            unfold dom at hd'
            cases hb : hp c i with
            | none => exact hd' hb
            | some b => have := (hown.sat i b hb).1; rw [e, hD] at this; cases this) (by omega)]
          exact hD
        have hlt2 : l < V2.heap.size := (Array.getElem?_eq_some_iff.1 q1).1
        refine fun V' k1 k2 k3 k4 k5 => ⟨q2.supp (S := fun k => S k ∨ (V.heap.size ≤ k ∧ k < V2.heap.size)) (fun k hk => .inl (kSo k hk)) (fun i hd => ?_) (fun D hD => .inl (kms D hD)) V' k1 k2 k3 k4 k5, (k1 l (.inl kl)).trans (World.putObj_heap_same hlt2), (k1 D0 (.inl kD)).trans hD0⟩
        rcases q3 i hd with h | h
        · exact .inr ⟨h, by
            unfold dom at hd
            cases hb : hp2 i with
            | none => exact absurd hb hd
            | some b => have := (Array.getElem?_eq_some_iff.1 (q2.sat i b hb).1).1; rwa [sz] at this⟩
        · exact .inl h
      · rw [sz]
        rcases hk with h | h
        · exact Nat.lt_of_lt_of_le (hSV k h) q4
        · exact h.2
      · exact hk.resolve_right (by omega)
    by_cases hcn : c < N
    · refine both _ (rounds c x hcn hx C1 l rfl rfl rfl) ?_
      intro e s2 r2 V1 V2 a1 a2 r1 ts1 hp1 y1 D1 hD1 hD1l hk ri1 gi2
      cases e with
      | normal =>
        have gi3 := gi2.weak (Weak.ctx (C := C1) rfl rfl hk)
        obtain ⟨p1, p2, p3, p4, S', p5, p6, p7, p8, p9, p10, p11, p12⟩ := post .ready none r2 V1 V2 a1 a2 r1 ts1 _ hp1 _ y1 _ D1 hD1 hD1l ri1 gi3.ri
        have hend := run_endRound (P := P) none p1
        rw [hrec] at hend p2 p3 p4 p10 p11
        refine ⟨_, _, hend, ?_, p2, p3, p4, S', ⟨p5, p6, p7, p8, .inl ⟨hcn, gi3.free, r2, p9, ?_⟩⟩, p11, p12⟩
        · have h1 : (YG.mk l xs N pn).pan c = none := by
            show (if c = N then pn else none) = none
            rw [if_neg (by omega)]
          have h2 : (c != N) = true := by simp; omega
          rw [h1, h2]; rfl
        · simpa [hrec] using p10
      | _ => exact hk.elim
    · obtain rfl : c = N := by omega
      have hpanN : (YG.mk l xs c pn).pan c = pn := by
        show (if c = c then pn else none) = pn
        rw [if_pos rfl]
      cases pn with
      | none =>
        rcases fin with ⟨e, _⟩ | ⟨x', hx', hfin⟩
        · obtain ⟨h9, _⟩ := List.getElem?_eq_some_iff.1 hx; have h9 : c < xs.length := h9; omega
        · have hx : xs[c]? = some x := hx
          rw [hx] at hx'; cases hx'
          refine both _ (hfin C1 l rfl rfl rfl) ?_
          intro e s2 r2 V1 V2 a1 a2 r1 ts1 hp1 y1 D1 hD1 hD1l hk ri1 gi2
          obtain ⟨hk1, hk2, hk3⟩ := hk
          cases ho : outCode e with
          | none => rw [ho] at hk1; cases hk1
          | some j =>
            obtain ⟨p1, p2, p3, p4, S', p5, p6, p7, p8, p9, p10, p11, p12⟩ := post .done (some j) r2 V1 V2 a1 a2 r1 ts1 _ hp1 _ y1 _ D1 hD1 hD1l ri1 gi2.ri
            have hend := run_endRound (P := P) (some j) p1
            rw [hrec] at hend p2 p3 p4 p10 p11
            have hR : ∃ v w', (Instr.endRound l (some j)).run P V2 = .ok v w' ∧ RR (.returned v) w' := by
              refine ⟨_, _, hend, ?_, p2, p3, p4, S', ⟨p5, p6, p7, p8, .inr ⟨rfl, e, s2.hp, s2.B, r2, .inl ⟨rfl, hk1⟩, hk3, gi2.free, gi2.low, p9, ?_⟩⟩, p11, p12⟩
              · rw [hpanN]; simp
              · intro V' k1 k2 k3 k4 k5
                obtain ⟨q1, q2⟩ := p10 V' k1 k2 k3 k4 k5
                refine ⟨q1, q2.2, fun j' hj' => ?_⟩
                rw [ho] at hj'; cases hj'
                simpa [hrec] using q2
            cases e <;> simp only [outCode, Option.some.injEq, reduceCtorEq] at ho
            · subst ho; exact hR
            · subst ho; exact hR
            · subst ho; exact hR
      | some pv =>
        obtain ⟨_, x', hx', hfin⟩ := fin
        have hx : xs[c]? = some x := hx
        rw [hx] at hx'; cases hx'
        refine both _ (hfin C1 l rfl rfl rfl) ?_
        intro e s2 r2 V1 V2 a1 a2 r1 ts1 hp1 y1 D1 hD1 hD1l hk ri1 gi2
        obtain ⟨rfl, hk2, hk3⟩ := hk
        obtain ⟨p1, p2, p3, p4, S', p5, p6, p7, p8, p9, p10, p11, p12⟩ := post .busy none r2 V1 V2 a1 a2 r1 ts1 _ hp1 _ y1 _ D1 hD1 hD1l ri1 gi2.ri
        have hid : V2.putObj l (.loop (rec .busy none)) = V2 := putObj_id p1
        rw [hid] at p2 p3 p4 p10 p11
        obtain ⟨T2, m2, ⟨hT2, os2, tp2, ou2, sz2, sm2⟩, hT2s, sep2, ⟨df2, nd2⟩, dm2⟩ := gi2.ri.ext
        have lt1 : V.heap.size ≤ (V1.putObj l (.loop (rec .busy none))).heap.size := by
          rw [putObj_size]
          obtain ⟨_, _, ⟨_, _, _, _, z1, _⟩, _⟩ := ri1.ext
          exact z1
        -- a mark of the round's own lies behind what was there
        have mnew : ∀ D ∈ m2, V.heap.size ≤ D := fun D hD => by
          have h1 := (dm2 D hD).1
          have h2 := (dm2 D hD).2.1
          refine Classical.byContradiction fun hlt => ?_
          have hlt : D < V.heap.size := by omega
          rw [hT2] at h2
          have hD1D : D1 D := Classical.byContradiction fun hc => h2 ⟨by omega, hc⟩
          obtain ⟨i, hd, e⟩ := hD1 D hlt hD1D
          by_cases hz : 100 ≤ i
          · obtain ⟨T1, m1, ⟨hT1, _⟩, _, sep1, _⟩ := ri1.ext
            have h3 := sep1 i hd hz
            rw [hT1, e] at h3
            obtain ⟨q, hq, e2⟩ := Classical.byContradiction fun hc => h3 ⟨hlt, hc⟩
            have hk5 : dom s2.hp q ∧ r2 q = rc q := gi2.ri.keep q hq
            exact gi2.ri.ne_mark hk5.1 h1 (hk5.2.trans e2)
          · have e3 : hp1 i = C.G i := ri1.glob i (by omega)
            have e4 : s2.hp i = C.G i := gi2.ri.glob i (by omega)
            have hd2 : dom s2.hp i := by unfold dom at *; rw [e4, ← e3]; exact hd
            exact gi2.ri.ne_mark hd2 h1 (by rw [gi2.ri.low i (by omega) hd2, ← e, ri1.low i (by omega) hd])
        show LeavesInM _ _ _ _ _ _ a2.defers _ _
        rw [df2, List.append_nil]
        refine leavesM (by simp) m2 V2 nd2 (fun D hD => (dm2 D hD).1) fun W'' e1 e2 e3 e4 e5 => ?_
        refine ⟨⟨_, rfl⟩, ?_⟩
        have sgok : GOK C.G W'' := fun k b hk => by
          rw [e5 k (fun hm => by have := (dm2 k hm).1; rw [p2 k b hk] at this; cases this)]
          exact p2 k b hk
        refine ⟨?_, sgok, by rw [e1]; exact p3, fun k hk hnS => ?_, fun k => S' k ∧ k ∉ m2, ⟨fun k hk => ⟨p5 k hk, fun hm => ?_⟩, fun D hD => ⟨p6 D hD, fun hm => ?_⟩, ⟨p7, fun hm => ?_⟩, ⟨p8, fun hm => ?_⟩, .inr ⟨rfl, _, s2.hp, s2.B, r2, .inr ⟨pv, rfl, rfl⟩, hk3, gi2.free, gi2.low, fun i hd => ⟨p9 i hd, fun hm => ?_⟩, ?_⟩⟩, fun k hk => ?_, fun k hk hlt => p12 k hk.1 hlt⟩
        · rw [hpanN]
        · rw [e5 k (fun hm => by have := mnew k hm; omega)]; exact p4 k hk hnS
        · have := mnew k hm; have := hSV k (kSo k hk); omega
        · have := mnew D hm; have := hSV D (kms D hD); omega
        · have := (dm2 l hm).1; rw [p1] at this; cases this
        · have := mnew D0 hm; have := hSV D0 kD; omega
        · exact gi2.ri.ne_mark hd (dm2 _ hm).1 rfl
        · intro V' k1 k2 k3 k4 k5
          have hh := fun k (hk : S' k ∧ k ∉ m2) => (k1 k hk).trans (e5 k hk.2)
          have hsupp2 : Supp (fun k => S' k ∧ k ∉ m2) W'' (fun V' => Own0 C d So ms s.yc a r2 tsE s2.hp V' ∧ V'.heap[D0]? = some (.deferred (some []))) := by
            obtain ⟨own2, _, hD2⟩ := p10.here
            have own3 : Own0 C d So ms s.yc a r2 tsE s2.hp W'' := own2.supp (S := fun k => S' k ∧ k ∉ m2) (fun k hk => ⟨p5 k hk, fun hm => by have := mnew k hm; have := hSV k (kSo k hk); omega⟩) (fun i hd => ⟨p9 i hd, fun hm => gi2.ri.ne_mark hd (dm2 _ hm).1 rfl⟩) (fun D hD => ⟨p6 D hD, fun hm => by have := mnew D hm; have := hSV D (kms D hD); omega⟩) W'' (fun k hk => e5 k hk.2) e2 e3 e4 (by rw [e1]; exact Nat.le_refl _)
            have hD3 : W''.heap[D0]? = some (.deferred (some [])) := (e5 D0 (fun hm => by have := mnew D0 hm; have := hSV D0 kD; omega)).trans hD2
            exact fun V' k1 k2 k3 k4 k5 => ⟨own3.supp (S := fun k => S' k ∧ k ∉ m2) (fun k hk => ⟨p5 k hk, fun hm => by have := mnew k hm; have := hSV k (kSo k hk); omega⟩) (fun i hd => ⟨p9 i hd, fun hm => gi2.ri.ne_mark hd (dm2 _ hm).1 rfl⟩) (fun D hD => ⟨p6 D hD, fun hm => by have := mnew D hm; have := hSV D (kms D hD); omega⟩) V' k1 k2 k3 k4 k5, (k1 D0 ⟨p8, fun hm => by have := mnew D0 hm; have := hSV D0 kD; omega⟩).trans hD3⟩
          obtain ⟨q1, q2⟩ := hsupp2 V' k1 k2 k3 k4 k5
          exact ⟨q1, q2, fun j hj => by simp [outCode] at hj⟩
        · rw [e1]; exact p11 k hk.1
  -- behind the iterator
  refine ⟨l, [mark D0], W1, { target := .fn (.func f) (caps.map (ren r)), args := #[.func (.yield l) #[] #[]] }, W1, f, #[Value.func (.yield l) #[] #[]] ++ caps.map (ren r), W1, ?_, ?_, fun f' hf' => ?_, ?_, fun h => (by cases h), ?_⟩
  · rw [← hW1, hrec]; exact run_enterLoop_outer _ _ _ _ _
  · simp only [resolve, hcapv]
    simp [go_sem, Act.eval]
  · simp [Target.leads] at hf'
    subst hf'
    exact callFunc_ok (hit.enter #[] default)
  · simp [invoke, go_sem, hit.enter]
  · have hsat1 : Sat r (dom (rst s.hp rs)) (rst s.hp rs) W1 := fun k b hk => ⟨(hb1.block _ (hi0.ri.lt (k := k) (by unfold dom; rw [rst_sub hk]; simp))).trans (hi0.ri.sat k b (rst_sub hk)).1, hit.closed k b hk⟩
    have hsubr : ∀ k, dom (rst s.hp rs) k → dom s.hp k := fun k hk => by
      unfold dom at *
      cases hb : rst s.hp rs k with
      | none => exact absurd hb hk
      | some b => rw [rst_sub hb]; simp
    have hlen : pn ≠ none → N < xs.length := fun hp1 => by
      cases pn with
      | none => exact absurd rfl hp1
      | some pv =>
        obtain ⟨_, x', hx', _⟩ := fin
        exact (List.getElem?_eq_some_iff.1 hx').1
    have hcalls := hit.run E l N r S1 W1 (gokOf own0.sat own0.glob own0.low) hsat1 (fun k l' hk hl => hi0.ri.inj k l' (hsubr k hk) (hsubr l' hl)) (fun k hk hd => hi0.ri.low k hk (hsubr k hd)) hlen hround X0 (fun k hk => hk.1) (fun i hd h1 hS => hS.2 ?_)
    · refine CallsIn.mono (hcalls : CallsIn (Fw P none) 0 P _ _ _ _) ?_
      -- the owner's activation, behind it all
      have giV : ∀ (rc : Nat → Nat) (hpE : Hp) (BE : Nat) (V : World), (∀ x, BE ≤ x → hpE x = none) → 100 ≤ BE → Own0 C d So ms s.yc a rc tsE hpE V → V.heap[D0]? = some (.deferred (some [])) → W.heap.size ≤ V.heap.size →
          GI P C n d rc ⟨tsE, hpE, BE, s.yc⟩ { a with defers := [mark D0] ++ a.defers } V := fun rc hpE BE V hfree hBE hown hD hsz =>
        ⟨⟨hi0.ri.size, hown.ri, hown.sat, hown.inj,
          ⟨So, D0 :: ms, hown.X, fun k hk => Nat.lt_of_lt_of_le (hSo k hk) hsz, hown.sep, ⟨by simp [hdef], List.nodup_cons.2 ⟨fun hm => by have := (Array.getElem?_eq_some_iff.1 (hms D0 hm).1).1; omega, hnd⟩⟩, fun D hDm => by
            rcases List.mem_cons.1 hDm with rfl | hDm
            · exact ⟨hD, (fun hS => by have := hSo _ hS; omega), hYn⟩
            · exact ⟨hown.mks D hDm, (hms D hDm).2⟩⟩,
          hown.keep, hown.glob, hown.low⟩, hfree, hBE, hi0.flat, hi0.rounds⟩
      have szOf : ∀ {S : Nat → Prop} {V : World} {c : Nat}, XX c S V → (∀ V, XX c S V → S l → True) → V.heap[D0]? = some (.deferred (some [])) → W.heap.size ≤ V.heap.size := fun {S V c} _ _ h => by
        have := (Array.getElem?_eq_some_iff.1 h).1; omega
      cases pn with
      | some pv =>
        rintro e V ⟨rfl, c, S', hX⟩
        obtain ⟨kSo, kms, kl, kD, hcase⟩ := hX
        obtain ⟨hbefore, _⟩ := fin
        rcases hcase with ⟨hc', hfree, rc, hrcS, hsupp⟩ | ⟨hc', e, hpE, BE, rc, ho, hk, hfree, hBE, hrcS, hsupp⟩
        · obtain ⟨hown, hl, hD⟩ := hsupp.here
          exact ⟨_, rc, hbefore c hc', giV rc _ B V hfree hw.low hown hD (by have := (Array.getElem?_eq_some_iff.1 hD).1; omega)⟩
        · obtain ⟨hown, hD, _⟩ := hsupp.here
          rcases ho with ⟨h1, _⟩ | ⟨pv', h1, rfl⟩
          · cases h1
          · cases h1
            exact ⟨_, rc, hk, giV rc _ BE V hfree hBE hown hD (by have := (Array.getElem?_eq_some_iff.1 hD).1; omega)⟩
      | none =>
      rintro e V ⟨⟨v, rfl⟩, S', hX⟩
      obtain ⟨kSo, kms, kl, kD, hcase⟩ := hX
      have fini : ∀ (st : LoopState) (pe : Option Code) (rc : Nat → Nat) (hpE : Hp) (BE : Nat), st ≠ .busy → (∀ x, BE ≤ x → hpE x = none) → 100 ≤ BE → Own0 C d So ms s.yc a rc tsE hpE V → Lv st pe V →
          (Instr.endLoop l).run P V = .ok pe (V.putObj l (.loop { rec st pe with state := .exhausted })) ∧ GI P C n d rc ⟨tsE, hpE, BE, s.yc⟩ { a with defers := [mark D0] ++ a.defers } (V.putObj l (.loop { rec st pe with state := .exhausted })) := fun st pe rc hpE BE hst hfree hBE hown ⟨hl, hD⟩ => by
        have hend := run_endLoop (P := P) hl (by rw [hrec]; exact hst)
        refine ⟨by rw [hrec] at hend ⊢; exact hend, ?_⟩
        have hlt : l < V.heap.size := (Array.getElem?_eq_some_iff.1 hl).1
        have szV : ∀ ob, (V.putObj l ob).heap.size = V.heap.size := fun ob => putObj_size _ _ _
        refine ⟨⟨hi0.ri.size, hown.ri, fun k b hk => ⟨(World.putObj_heap_other (fun e => ?_)).trans (hown.sat k b hk).1, (hown.sat k b hk).2⟩, hown.inj,
          ⟨So, D0 :: ms, C.E.ok _ _ _ _ hown.X (fun k hk => World.putObj_heap_other (fun e => by have := hSo k hk; omega)) rfl rfl rfl (by rw [szV]; exact Nat.le_refl _), fun k hk => by rw [szV]; have := hSo k hk; omega, hown.sep, ⟨by simp [hdef], List.nodup_cons.2 ⟨fun hm => ?_, hnd⟩⟩, fun D hDm => ?_⟩,
          hown.keep, hown.glob, hown.low⟩, hfree, hBE, hi0.flat, hi0.rounds⟩
        · have := (hown.sat k b hk).1; rw [e, hl] at this; cases this
        · have := (Array.getElem?_eq_some_iff.1 (hms D0 hm).1).1; omega
        · rcases List.mem_cons.1 hDm with rfl | hDm
          · exact ⟨(World.putObj_heap_other (by omega)).trans hD, (fun hS => by have := hSo _ hS; omega), hYn⟩
          · exact ⟨(World.putObj_heap_other (fun e => by have := hown.mks D hDm; rw [e, hl] at this; cases this)).trans (hown.mks D hDm), (hms D hDm).2⟩
      rcases hcase with ⟨hc', hfree, rc, hrcS, hsupp⟩ | ⟨hc', e, hpE, BE, rc, ho, hk, hfree, hBE, hrcS, hsupp⟩
      · obtain ⟨hown, hLv⟩ := hsupp.here
        have hNl : N = xs.length := by omega
        have hmin : min (N + 1) xs.length = N := by omega
        rw [hmin] at hfree hown
        obtain ⟨f1, f2⟩ := fini .ready none rc (hp N) B (by simp) hfree hw.low hown hLv
        rcases fin with ⟨_, hK⟩ | ⟨x', hx', _⟩
        · exact ⟨none, _, f1, _, rc, hK, f2⟩
        · obtain ⟨h9, _⟩ := List.getElem?_eq_some_iff.1 hx'; omega
      · obtain ⟨hown, _, hLv⟩ := hsupp.here
        rcases ho with ⟨_, ho⟩ | ⟨pv, h1, _⟩
        · cases hoj : outCode e with
          | none => rw [hoj] at ho; cases ho
          | some j =>
            obtain ⟨f1, f2⟩ := fini .done (some j) rc hpE BE (by simp) hfree hBE hown (hLv j hoj)
            refine ⟨some j, _, f1, ?_⟩
            cases e <;> simp only [outCode, Option.some.injEq, reduceCtorEq] at hoj
            · subst hoj; exact wpIn_exit ⟨_, rc, hk, f2⟩
            · subst hoj; exact wpIn_goto ⟨_, rc, hk, f2⟩
            · subst hoj; exact wpIn_ret ⟨_, rc, hk, f2⟩
        · cases h1
    · refine ⟨i, ?_, h1, rfl⟩
      unfold dom rst at hd
      split at hd
      · rename_i h; exact h.resolve_left (by omega)
      · exact absurd rfl hd

theorem GW_range {t : Tmp} {ps : Array Tmp} {assign body : Code} {f : FuncId} {caps : Array Value} {rs : List Nat} {xs : List (Array Value)} (hg : s.ts t = .func (.func f) #[] caps) (hit : IterG P C.G f caps s.hp rs xs)
    (hxs : ∀ x ∈ xs, x.size = ps.size ∧ ∀ v ∈ x, flatV v = true) (hps : ∀ p ∈ ps, p < n) (tsE : Nat → Value) (hp : Nat → Hp) (B : Nat) (N : Nat) (hN : N ≤ xs.length)
    (hw : Weak C s ⟨tsE, hp 0, B, s.yc⟩) (hdis : ∀ k ∈ rs, hp 0 k = none ∧ dom s.hp k) (hids : ∀ i, i ≤ N → ∀ t, idsV (dom (hp i)) (tsE t))
    (rounds : ∀ i x, i < N → xs[i]? = some x → ∀ (C1 : Ctx) (l : Nat), C1.G = C.G → C1.hp0 = hp i → C1.Y = none → GW P C1 n [] (some l) assign ⟨roundTs ps.toList x.toList tsE, hp i, B, 0⟩
      (thenG (fun s1 => ∀ C2 : Ctx, C2.G = C.G → C2.hp0 = hp i → C2.Y = none → GW P C2 n [] (some l) body s1 (thenG (fun s2 => Weak C1 s2 ⟨fun _ => junk, hp (i + 1), B, s2.yc⟩) (fun _ _ => False))) (fun _ _ => False)))
    (fin : (N = xs.length ∧ K .normal ⟨tsE, hp N, B, s.yc⟩) ∨ ∃ x, xs[N]? = some x ∧ ∀ (C1 : Ctx) (l : Nat), C1.G = C.G → C1.hp0 = hp N → C1.Y = none → GW P C1 n [] (some l) assign ⟨roundTs ps.toList x.toList tsE, hp N, B, 0⟩
      (thenG (fun s1 => ∀ C2 : Ctx, C2.G = C.G → C2.hp0 = hp N → C2.Y = none → GW P C2 n [] (some l) body s1 (fun e s2 => (outCode e).isSome = true ∧ (∀ t, idsV (dom s2.hp) (tsE t)) ∧ K e ⟨tsE, s2.hp, s2.B, s.yc⟩)) (fun _ _ => False))) (hYn : C.Y ≠ some .still := by first | assumption | (intro h; simp_all [YG.still])) :
    GW P C n d none (.rangeFunc (.tmp t) ps assign body) s K :=
  GW_rangeX none hg hit hxs hps tsE hp B N hN hw hdis hids rounds fin hYn
/-- A range over a function whose round N panics. -/
theorem GW_rangeP (pv : Value) {t : Tmp} {ps : Array Tmp} {assign body : Code} {f : FuncId} {caps : Array Value} {rs : List Nat} {xs : List (Array Value)} (hg : s.ts t = .func (.func f) #[] caps) (hit : IterP P C.G f caps s.hp rs xs)
    (hxs : ∀ x ∈ xs, x.size = ps.size ∧ ∀ v ∈ x, flatV v = true) (hps : ∀ p ∈ ps, p < n) (tsE : Nat → Value) (hp : Nat → Hp) (B : Nat) (N : Nat) (hN : N ≤ xs.length)
    (hw : Weak C s ⟨tsE, hp 0, B, s.yc⟩) (hdis : ∀ k ∈ rs, hp 0 k = none ∧ dom s.hp k) (hids : ∀ i, i ≤ N → ∀ t, idsV (dom (hp i)) (tsE t))
    (rounds : ∀ i x, i < N → xs[i]? = some x → ∀ (C1 : Ctx) (l : Nat), C1.G = C.G → C1.hp0 = hp i → C1.Y = none → GW P C1 n [] (some l) assign ⟨roundTs ps.toList x.toList tsE, hp i, B, 0⟩
      (thenG (fun s1 => ∀ C2 : Ctx, C2.G = C.G → C2.hp0 = hp i → C2.Y = none → GW P C2 n [] (some l) body s1 (thenG (fun s2 => Weak C1 s2 ⟨fun _ => junk, hp (i + 1), B, s2.yc⟩) (fun _ _ => False))) (fun _ _ => False)))
    (before : ∀ c, c ≤ N → K (.panic [{ v := pv, recovered := false }]) ⟨tsE, hp c, B, s.yc⟩)
    (fin : ∃ x, xs[N]? = some x ∧ ∀ (C1 : Ctx) (l : Nat), C1.G = C.G → C1.hp0 = hp N → C1.Y = none → GW P C1 n [] (some l) assign ⟨roundTs ps.toList x.toList tsE, hp N, B, 0⟩
      (thenG (fun s1 => ∀ C2 : Ctx, C2.G = C.G → C2.hp0 = hp N → C2.Y = none → GW P C2 n [] (some l) body s1 (fun e s2 => e = .panic [{ v := pv, recovered := false }] ∧ (∀ t, idsV (dom s2.hp) (tsE t)) ∧ K e ⟨tsE, s2.hp, s2.B, s.yc⟩)) (fun _ _ => False))) (hYn : C.Y ≠ some .still := by first | assumption | (intro h; simp_all [YG.still])) :
    GW P C n d none (.rangeFunc (.tmp t) ps assign body) s K :=
  GW_rangeX (some pv) hg (hit pv) hxs hps tsE hp B N hN hw hdis hids rounds ⟨before, fin⟩ hYn
end
end Go.Gy
