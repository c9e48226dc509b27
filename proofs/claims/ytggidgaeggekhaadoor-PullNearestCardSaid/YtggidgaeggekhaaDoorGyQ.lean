/-
  The ghost layer, part Q: functions that defer a closure which recovers.
  Conditions: none beyond the hypotheses of each theorem.
-/
import Derived.Test.YtggidgaeggekhaaDoorGyT
import Derived.RecoverIn
namespace Go.Gy
open Go Go.RowKit

section
variable {P : Program} {G : Hp}

/-! ### Loops, round by round -/
/-- At the head of a round. -/
def GWL (P : Program) (C : Ctx) (n : Nat) (d : List Deferred) (ro : Option Nat) (c : Code) (s : GS) (K : Exit → GS → Prop) : Prop :=
  ∀ r a W, GI P C n d r s a W → ∀ (b : Frame) (k : List Item) (cs : List Frame), b.roundOf = ro → (Fs P).fn b.fn →
    ∃ e a' w', (∃ s' r', K e s' ∧ GI P C n d r' s' a' w') ∧ ArrivesIn (Machine.fenced P (Fw P ro)) P (lone (b.atR a (.code c :: .inLoop c :: k)) cs W) b k cs e a' w'
theorem GWL_start {C : Ctx} {n : Nat} {d : List Deferred} {ro : Option Nat} {c : Code} {s : GS} {K : Exit → GS → Prop} (h : GWL P C n d ro c s K) : GW P C n d ro (.loop c) s K := by
  intro r a W hi b k cs hro hb hr
  obtain ⟨e, a', w', hq, harr⟩ := h r a W hi b k cs hro hb
  exact ⟨e, a', w', hq, .of_steps (.one (fenced_calm hb hr rfl) stepR_loop) harr⟩
theorem GWL_step {C : Ctx} {n : Nat} {d : List Deferred} {ro : Option Nat} {c : Code} {s : GS} {K : Exit → GS → Prop} (h : GW P C n d ro c s (thenG (fun s' => GWL P C n d ro c s' K) K)) : GWL P C n d ro c s K := by
  intro r a W hi b k cs hro hfn
  obtain ⟨e, a₁, w₁, ⟨s', r', hk, hi'⟩, harr⟩ := h r a W hi b (.inLoop c :: k) cs hro hfn (room_Fs P _)
  cases e with
  | normal =>
    obtain ⟨e₂, a₂, w₂, hq₂, harr₂⟩ := hk r' a₁ w₁ hi' b k cs hro hfn
    exact ⟨e₂, a₂, w₂, hq₂, .of_steps (StepsIn.trans harr (.one (fenced_calm (F := Fw P ro) (n := 0) hfn (room_Fs P _) rfl) stepR_inLoop)) harr₂⟩
  | exit id => exact ⟨_, a₁, w₁, ⟨s', r', hk, hi'⟩, .pass (x := .inLoop c) rfl (fun _ _ => .inl (by simp)) harr⟩
  | goto l => exact ⟨_, a₁, w₁, ⟨s', r', hk, hi'⟩, .pass (x := .inLoop c) rfl (fun _ _ => .inl (by simp)) harr⟩
  | ret => exact ⟨_, a₁, w₁, ⟨s', r', hk, hi'⟩, .pass (x := .inLoop c) rfl (fun _ _ => .inl (by simp)) harr⟩
  | panic ch => exact ⟨_, a₁, w₁, ⟨s', r', hk, hi'⟩, .pass (x := .inLoop c) rfl (fun _ _ => .inl (by simp)) harr⟩
  | outgrown => exact ⟨_, a₁, w₁, ⟨s', r', hk, hi'⟩, .pass (x := .inLoop c) rfl (fun _ _ => .inl (by simp)) harr⟩
theorem GWL_weak {C : Ctx} {n : Nat} {d : List Deferred} {ro : Option Nat} {c : Code} {s s' : GS} {K : Exit → GS → Prop} (hw : Weak C s s') (h : GWL P C n d ro c s' K) : GWL P C n d ro c s K := fun r a W hi => h r a W (hi.weak hw)
/-- A scope with one label: the way to the label, and from it on. -/
theorem GW_scope' {C : Ctx} {n : Nat} {d : List Deferred} {ro : Option Nat} {c rest : Code} {s : GS} {K : Exit → GS → Prop} (l : Nat) (I : Nat → GS → Prop) (hfl : findLabel c l = some (.seq .skip rest))
    (pass : ∀ m s, I m s → GW P C n d ro rest s (jumpG l (fun s' => ∃ s'' m', Weak C s' s'' ∧ I m' s'' ∧ m' < m) K))
    (first : (∀ m s s', Weak C s' s → I m s → GW P C n d ro rest s' (jumpG l (fun s' => ∃ s'' m', Weak C s' s'' ∧ I m' s'') K)) → GW P C n d ro c s (jumpG l (fun s' => ∃ s'' m', Weak C s' s'' ∧ I m' s'') K)) : GW P C n d ro (.scope c) s K :=
  GW_scope l I hfl (first fun m s s' hw hI => GW_weak hw (GW_mono (pass m s hI) fun e s h => by
    cases e <;> first | exact h | exact ⟨h.1, let ⟨s'', m', h1, h2, _⟩ := h.2; ⟨s'', m', h1, h2⟩⟩)) fun m s hI => GW_seq (GW_skip (pass m s hI))
@[simp] theorem ifaceX_int (k : IntKind) (T : TypeId) (v : Value) (C : Eff → Prop) : ifaceX (some (.int k)) T v C = C (val (.iface T v) []) := nr rfl

/-- Where code begins in a frame of its own that ranges over no function. -/
theorem gi_begin {n B : Nat} {hp : Hp} {ts : Nat → Value} {r : Nat → Nat} {a : Act} {W : World} (hGF : GFlat G) (hsz : a.tmps.size = n) (hd : a.defers = []) (hrel : Rel r (dom hp) ts a)
    (hsat : Sat r (dom hp) hp W) (hinj : Inj r (dom hp)) (hlow : ∀ k, k < 100 → dom hp k → r k = k) (hG : ∀ k, k < 100 → hp k = G k) (hfree : ∀ x, B ≤ x → hp x = none) (hB : 100 ≤ B) :
    GI P ⟨callE W (imO r hp), hp, r, G, some .still⟩ n [] r ⟨ts, hp, B, 0⟩ a W := by
  have ltW : ∀ k, dom hp k → r k < W.heap.size := fun k hk => by
    unfold dom at hk
    cases hb : hp k with
    | none => exact absurd hb hk
    | some b => exact (Array.getElem?_eq_some_iff.1 (hsat k b hb).1).1
  exact ⟨⟨hsz, hrel, hsat, hinj, ⟨fun k => k < W.heap.size ∧ ¬ imO r hp k, [], ⟨fun _ => Iff.rfl, rfl, rfl, rfl, Nat.le_refl _, fun _ _ => rfl⟩, fun k hk => hk.1, fun i hi _ hS => hS.2 ⟨i, hi, rfl⟩, ⟨by simp [hd], List.nodup_nil⟩, by simp⟩,
      fun i hi => ⟨hi, rfl⟩, hG, hlow⟩, hfree, hB, hGF, fun y hy => by cases hy; intro c x S W _ hx; simp [YG.still] at hx⟩

/-- What an activation that ranges over no function has deferred. -/
theorem RI.still {C : Ctx} {n : Nat} {d : List Deferred} {r : Nat → Nat} {ts : Nat → Value} {hp : Hp} {yc : Nat} {a : Act} {W : World} (h : RI C n d r ts hp yc a W) (hY : C.Y = some .still) : a.defers = d := by
  obtain ⟨S, ms, _, _, _, ⟨h4, _⟩, h5⟩ := h.ext
  cases ms with
  | nil => simpa using h4
  | cons D ms => exact absurd hY (h5 D (by simp)).2.2

/-- Where an activation ends: what has turned since the call began. -/
theorem ri_end {C : Ctx} {n : Nat} {d : List Deferred} {r r' : Nat → Nat} {ts : Nat → Value} {hp hp0 : Hp} {yc : Nat} {a' : Act} {W W' : World} {ws : List (Nat × Blk)} (h : RI C n d r' ts hp yc a' W') (hE : C.E = callE W (imO r hp0))
    (hk0 : ∀ k, dom hp0 k → dom C.hp0 k ∧ C.r0 k = r k) (hsat : Sat r (dom hp0) hp0 W) (hcl : ∀ k b, hp0 k = some b → b.ids (dom hp0)) (hhp : ∀ k, dom hp0 k → hp k = updL hp0 ws k)
    (hws : ∀ k ∈ keys ws, dom hp0 k) (once : ∀ k b c, (k, b) ∈ ws → (k, c) ∈ ws → b = c) (hid : ∀ p ∈ ws, p.2.ids (dom hp0)) : (∀ k, dom hp0 k → r' k = r k) ∧ Turn r (extD (dom hp0) []) W W' ws [] := by
  obtain ⟨S, ms, hX, hS1, hS2, _, _⟩ := h.ext
  rw [hE] at hX
  obtain ⟨hS, os, tape, output, size, hsame⟩ := hX
  have hkeep : ∀ i, dom hp0 i → dom hp i ∧ r' i = r i := fun i hi => by
    have h1 := hk0 i hi
    have h2 := h.keep i h1.1
    exact ⟨h2.1, h2.2.trans h1.2⟩
  refine ⟨fun k hk => (hkeep k hk).2, os, tape, output, size, fun k hk hnw => ?_, fun p hp1 => ?_, by simp, by simp⟩
  · by_cases hk' : imO r hp0 k
    · obtain ⟨i, hi1, rfl⟩ := hk'
      have hiw : i ∉ keys ws := fun hm => by obtain ⟨p, hp1, rfl⟩ := mem_keys.1 hm; exact hnw p hp1 rfl
      cases hb : hp0 i with
      | none => exact absurd hb hi1
      | some b =>
        have e : hp i = some b := by rw [hhp i hi1, updL_other hiw]; exact hb
        have := (h.sat i b e).1
        rw [(hkeep i hi1).2, Blk.obj_congr (fun k hk => (hkeep k hk).2) (hcl i b hb)] at this
        rw [this, (hsat i b hb).1]
    · exact hsame k ((hS k).2 ⟨hk, hk'⟩)
  · simp only [List.append_nil] at hp1
    have hdm : dom hp0 p.1 := hws p.1 (mem_keys.2 ⟨p, hp1, rfl⟩)
    have e : hp p.1 = some p.2 := by rw [hhp _ hdm]; exact updL_once hp1 once
    have := (h.sat _ _ e).1
    have hi := hid p hp1
    rw [(hkeep _ hdm).2, Blk.obj_congr (fun k hk => (hkeep k hk).2) hi] at this
    exact ⟨this, Blk.ids_mono (fun k hk => .inl hk) hi⟩

theorem rel_map {r : Nat → Nat} {D : Nat → Prop} {A : Array Value} {ds : List Deferred} (h : ∀ x ∈ A, idsV D x) : Rel r D (fun t => A.getD t undef) { tmps := A.map (ren r), defers := ds } := fun t => by
  right
  dsimp only
  by_cases ht : t < A.size
  · have e : A.getD t undef = A[t] := by simp [Array.getD, ht]
    rw [e]
    exact ⟨by simp [Array.getD, ht], h _ (Array.getElem_mem ht)⟩
  · have e : A.getD t undef = undef := by simp [Array.getElem?_eq_none (Nat.le_of_not_lt ht)]
    rw [e]
    exact ⟨by rw [ren_undef]; simp [Array.getElem?_eq_none (Nat.le_of_not_lt ht)], ids_undef _⟩

def recd (pv : Value) : FrameMode := .panicking [{ v := pv, recovered := true }]
def pand (pv : Value) : FrameMode := .panicking [{ v := pv, recovered := false }]

/-- **A DEFERRED CLOSURE THAT RECOVERS**: where the frame below panics with pv, it turns ws; where that returns, nothing. -/
structure RecF (P : Program) (G : Hp) (h : FuncId) (caps : Array Value) (hp : Hp) (rs : List Nat) (pv : Value) (ws : List (Nat × Blk)) : Prop where
  fn : ∃ fn, P.funcs[h]? = some fn
  enter : ∀ a w, (callFunc h a).run P w = .ok (.enter h a) w
  back : ∀ args W, args.size = caps.size → CallsDIn (Fs P) 0 P h args .returning W fun e u' W' => (∃ v, e = .returned v) ∧ u' = .returning ∧ W' = W
  caught : ∀ r W, Sat r (dom (rst hp rs)) (rst hp rs) W → Inj r (dom (rst hp rs)) → (∀ k, k < 100 → dom (rst hp rs) k → r k = k) →
    CallsDIn (Fs P) 0 P h (caps.map (ren r)) (pand pv) W fun e u' W' => (∃ v, e = .returned v) ∧ u' = recd pv ∧ Turn r (extD (dom (rst hp rs)) []) W W' ws []

theorem caught_of {h : FuncId} {fn : Func} {id : Nat} {ops : Array Oper} {rest : Code} {caps A : Array Value} {hp : Hp} {rs : List Nat} {pv : Value} {ws : List (Nat × Blk)} {B : Nat} (hGF : GFlat G) (hG : ∀ k, k < 100 → hp k = G k)
    (hf : P.funcs[h]? = some fn) (hb : fn.body = some (.seq (.region id ops false) rest)) (hA : A.size = fn.ntmps) (hids : ∀ x ∈ A, idsV (dom (rst hp rs)) x)
    (hfirst : ∀ (r : Nat → Nat) (c₀ : Frame) (cs : List Frame) (W : World) (Q : Exit → Act → List Frame → World → Prop), c₀.mode = pand pv → Q .normal { tmps := A.map (ren r), defers := [] } ({ c₀ with mode := recd pv } :: cs) W →
      wpOpsSIn (Fs P) 0 P ops Q (List.range ops.size) { tmps := caps.map (ren r) ++ Array.replicate (fn.ntmps - (caps.map (ren r)).size) undef, defers := [] } (c₀ :: cs) W)
    (hcl : ∀ k b, rst hp rs k = some b → b.ids (dom (rst hp rs))) (hws : ∀ k ∈ keys ws, dom (rst hp rs) k) (once : ∀ k b c, (k, b) ∈ ws → (k, c) ∈ ws → b = c) (hid : ∀ p ∈ ws, p.2.ids (dom (rst hp rs)))
    (hB : 100 ≤ B) (hfree : ∀ x, B ≤ x → rst hp rs x = none)
    (hrest : ∀ C : Ctx, C.G = G → C.hp0 = rst hp rs → C.Y = some .still → GW P C fn.ntmps [] none rest ⟨fun t => A.getD t undef, rst hp rs, B, 0⟩ fun e s => (e = .normal ∨ e = .ret) ∧ (resG P fn.results.toList s.ts s.hp).isSome = true ∧ ∀ k, dom (rst hp rs) k → s.hp k = updL (rst hp rs) ws k)
    (r : Nat → Nat) (W : World) (hsat : Sat r (dom (rst hp rs)) (rst hp rs) W) (hinj : Inj r (dom (rst hp rs))) (hlow : ∀ k, k < 100 → dom (rst hp rs) k → r k = k) :
    CallsDIn (Fs P) 0 P h (caps.map (ren r)) (pand pv) W fun e u' W' => (∃ v, e = .returned v) ∧ u' = recd pv ∧ Turn r (extD (dom (rst hp rs)) []) W W' ws [] := by
  refine callsDIn_of_wpSIn hf hb ⟨fn, hf⟩ fun c₀ cs hu => wpSIn_seq (wpSIn_region (hfirst r c₀ cs W _ hu (wpSIn_of_wpIn rfl ?_)))
  have hi := gi_begin (P := P) (B := B) (n := fn.ntmps) (ts := fun t => A.getD t undef) (a := { tmps := A.map (ren r), defers := [] }) hGF (by simp [hA]) rfl (rel_map hids) hsat hinj hlow (fun k hk => by simp [rst, hk, hG k hk]) hfree hB
  refine wpIn_mono (hrest _ rfl rfl rfl r _ W hi) ?_
  rintro e a' W' ⟨s', r', ⟨he, hr, hhp⟩, hi'⟩
  have hd := hi'.ri.still rfl
  have ht := ri_end hi'.ri (r := r) (hp0 := rst hp rs) rfl (fun k hk => ⟨hk, rfl⟩) hsat hcl hhp hws once hid
  cases hv : resG P fn.results.toList s'.ts s'.hp with
  | none => rw [hv] at hr; cases hr
  | some v =>
    have hrun := run_resG' (fn := fn) hi'.ri.rel hi'.ri.sat hv
    rcases he with rfl | rfl
    · exact ⟨hd, _, rfl, _, hrun, ⟨_, rfl⟩, rfl, ht.2⟩
    · exact ⟨hd, _, rfl, _, hrun, ⟨_, rfl⟩, rfl, ht.2⟩

/-- Where the frame below returns. -/
theorem back_of {h : FuncId} {fn : Func} {c : Code} {k : Nat} (hf : P.funcs[h]? = some fn) (hb : fn.body = some c)
    (hw : ∀ (args : Array Value) (c₀ : Frame) (cs : List Frame) (W : World), args.size = k → c₀.mode = .returning →
      c.wpSIn (Fs P) 0 P (fun e a cs' W' => (e = .normal ∨ e = .ret) ∧ a.defers = [] ∧ cs' = c₀ :: cs ∧ W' = W ∧ ∃ v, (results fn a.tmps).run P W = .ok v W) { tmps := args ++ Array.replicate (fn.ntmps - args.size) undef, defers := [] } (c₀ :: cs) W)
    (args : Array Value) (W : World) (hk : args.size = k) : CallsDIn (Fs P) 0 P h args .returning W fun e u' W' => (∃ v, e = .returned v) ∧ u' = .returning ∧ W' = W := by
  refine callsDIn_of_wpSIn hf hb ⟨fn, hf⟩ fun c₀ cs hu => ?_
  intro b k' hb hr hF hroom
  obtain ⟨e, a', cs', w', hl, ⟨he, hd, rfl, rfl, v, hv⟩, harr⟩ := hw args c₀ cs W hk hu b k' hb hr hF hroom
  refine ⟨e, a', _, _, hl, ?_, harr⟩
  have hc : ({ c₀ with mode := .returning } : Frame) = c₀ := by rw [← hu]
  rcases he with rfl | rfl
  · exact ⟨hd, .returning, by rw [hc], v, hv, ⟨_, rfl⟩, rfl, rfl⟩
  · exact ⟨hd, .returning, by rw [hc], v, hv, ⟨_, rfl⟩, rfl, rfl⟩

theorem RecF.under {h : FuncId} {caps : Array Value} {hp hp' : Hp} {rs : List Nat} {pv : Value} {ws : List (Nat × Blk)} (hr : RecF P G h caps hp' rs pv ws) (e : ∀ k, (k < 100 ∨ k ∈ rs) → hp' k = hp k) : RecF P G h caps hp rs pv ws :=
  ⟨hr.fn, hr.enter, hr.back, by rw [← rst_congr e]; exact hr.caught⟩

/-- What deferring a closure does. -/
theorem defer_region {n : Nat} {id t : Nat} {h : FuncId} {cs : Array Operand} {ty1 ty2 : TypeId} {ps1 ps2 : String} {af2 : Array Edge} {Q : Exit → Act → World → Prop} {a : Act} {W : World} (ht : t < a.tmps.size)
    (hQ : Q .normal { a.put (some t) (.func (.func h) #[] (cs.map a.eval)) with defers := ⟨.fn (.func h) (cs.map a.eval), #[]⟩ :: a.defers } W) :
    (Code.region id [⟨some t, .makeFunc (.func h) #[] cs, ty1, ps1, #[], none⟩, ⟨none, .defer ⟨.value (.tmp t), #[], #[]⟩, ty2, ps2, af2, none⟩].toArray false).wpIn (Fw P none) n P Q a W := by
  refine wpIn_region_lit (wpListIn_plain rfl fun K hK => ?_)
  refine ⟨fun f hf => by simp [Oper.about] at hf, ?_⟩
  have e : (Fw P none).round = none := rfl
  rw [e, Oper.semAt_none]
  have hrun : (execOp a.eval ⟨some t, .makeFunc (.func h) #[] cs, ty1, ps1, #[], none⟩).run P W = .ok (.value (.func (.func h) #[] (cs.map a.eval))) W := by
    simp [execOp, Instr.makeFunc]
  rw [hrun]
  refine hK _ _ (wpListIn_plain rfl fun K hK => ?_)
  refine ⟨fun f hf => by simp [Oper.about] at hf, ?_⟩
  rw [e, Oper.semAt_none]
  have hev : (a.put (some t) (.func (.func h) #[] (cs.map a.eval))).eval (.tmp t) = .func (.func h) #[] (cs.map a.eval) := by simp [Act.eval, Act.put, ht]
  have hrun : (execOp (a.put (some t) (.func (.func h) #[] (cs.map a.eval))).eval ⟨none, .defer ⟨.value (.tmp t), #[], #[]⟩, ty2, ps2, af2, none⟩).run P W = .ok (.defer ⟨.fn (.func h) (cs.map a.eval), #[]⟩) W := by
    simp [execOp, resolve, hev, Deferred.ofValue]
  dsimp only
  rw [hrun]
  exact hK _ _ (wpListIn_nil hQ)

/-- How a body ends that has deferred a closure. -/
inductive REnd
  | ret (v : Value) (ws : List (Nat × Blk))
  | pan (pv : Value) (rs1 : List Nat) (ws1 : List (Nat × Blk)) (v : Value)
def REnd.res : REnd → Res
  | .ret v ws => .ret v ws
  | .pan _ _ _ v => .ret v []
def rendP (P : Program) (G : Hp) (fn : Func) (h : FuncId) (capsD : Array Value) (hp hp1 : Hp) (out : REnd) (e : Exit) (s : GS) : Prop :=
  match out with
  | .ret v ws => (e = .normal ∨ e = .ret) ∧ resG P fn.results.toList s.ts s.hp = some v ∧ ∀ k, dom hp k → s.hp k = updL hp ws k
  | .pan pv rs1 ws1 v => e = .panic [{ v := pv, recovered := false }] ∧ resG P fn.results.toList s.ts (updL s.hp ws1) = some v ∧ (∀ k, dom hp1 k → s.hp k = hp1 k) ∧ RecF P G h capsD hp1 rs1 pv ws1 ∧ (∀ k, dom (rst hp1 rs1) k → dom hp1 k) ∧
      (∀ k ∈ keys ws1, dom (rst hp1 rs1) k ∧ 100 ≤ k ∧ ¬ dom hp k) ∧ (∀ k b, rst hp1 rs1 k = some b → b.ids (dom (rst hp1 rs1)))

theorem fun_rec {f h : FuncId} {fn : Func} {R0 rest : Code} {id t : Nat} {cs : Array Operand} {ty1 ty2 : TypeId} {ps1 ps2 : String} {af2 : Array Edge} {args : Array Value} {hp hp1 : Hp} {rs : List Nat} {ts1 : Nat → Value} {B B1 : Nat} {out : REnd} (capsD : Array Value)
    (hGF : GFlat G) (hG : ∀ k, k < 100 → hp k = G k) (hf : P.funcs[f]? = some fn)
    (hb : fn.body = some (.seq R0 (.seq (.region id [⟨some t, .makeFunc (.func h) #[] cs, ty1, ps1, #[], none⟩, ⟨none, .defer ⟨.value (.tmp t), #[], #[]⟩, ty2, ps2, af2, none⟩].toArray false) rest))) (ht : t < fn.ntmps)
    (hcall : ∀ a w, (callFunc f a).run P w = .ok (.enter f a) w) (hback : ∃ pv hp rs ws, RecF P G h capsD hp rs pv ws)
    (ha : ∀ x ∈ args, idsV (dom (rst hp rs)) x) (hcl : ∀ k b, rst hp rs k = some b → b.ids (dom (rst hp rs))) (hfit : out.res.fits hp rs) (hn : args.size ≤ fn.ntmps) (hB : 100 ≤ B) (hfree : ∀ x, B ≤ x → rst hp rs x = none)
    (hR0 : ∀ C : Ctx, C.G = G → C.hp0 = rst hp rs → C.Y = some .still → GW P C fn.ntmps [] none R0 ⟨fun t => args.getD t undef, rst hp rs, B, 0⟩ fun e s => e = .normal ∧ s = ⟨ts1, hp1, B1, 0⟩)
    (hsub : ∀ k, dom (rst hp rs) k → hp1 k = rst hp rs k)
    (hcs : ∀ o ∈ cs.toList, okT ts1 o ∧ ∃ t', o = .tmp t') (hcd : cs.map (gev ts1) = capsD) (hpl : ∀ x ∈ capsD, plain0 x = true)
    (hrest : ∀ (C : Ctx) (d : List Deferred), C.G = G → C.hp0 = hp1 → C.Y = some .still → GW P C fn.ntmps d none rest ⟨upd ts1 t (.func (.func h) #[] capsD), hp1, B1, 0⟩ (rendP P G fn h capsD (rst hp rs) hp1 out)) :
    Fun P G f args hp rs out.res := by
  refine ⟨hcall, ha, hcl, hfit, fun r W hgok hsat hinj hlow => callsIn_of_wp_defers hf hb ⟨fn, hf⟩ ?_⟩
  have hi := gi_begin (P := P) (B := B) (n := fn.ntmps) (ts := fun t => args.getD t undef) (a := { tmps := args.map (ren r) ++ Array.replicate (fn.ntmps - (args.map (ren r)).size) undef, defers := [] }) hGF (by simp; omega) rfl ?_ hsat hinj hlow
    (fun k hk => by simp [rst, hk, hG k hk]) hfree hB
  · refine wpIn_seq (wpIn_mono (hR0 _ rfl rfl rfl r _ W hi) ?_)
    rintro e a1 W1 ⟨s1, r1, ⟨rfl, rfl⟩, hi1⟩
    have hd1 : a1.defers = [] := hi1.ri.still rfl
    have hev : cs.map a1.eval = capsD.map (ren r1) := by
      rw [← hcd, Array.map_map]
      refine Array.map_congr_left fun o ho => ?_
      obtain ⟨h1, t', rfl⟩ := hcs o (by simpa using ho)
      have h2 : nj (ts1 t') := h1
      have h3 := (hi1.ri.rel t').resolve_left (fun e => by dsimp only at e; rw [e] at h2; exact absurd h2 (by simp [nj, junk]))
      exact h3.1
    have hids : ∀ x ∈ capsD, idsV (dom hp1) x := fun x hx => by
      rw [← hcd] at hx
      obtain ⟨o, ho, rfl⟩ := Array.mem_map.1 hx
      obtain ⟨h1, t', rfl⟩ := hcs o (by simpa using ho)
      have h2 : nj (ts1 t') := h1
      have h3 := (hi1.ri.rel t').resolve_left (fun e => by dsimp only at e; rw [e] at h2; exact absurd h2 (by simp [nj, junk]))
      exact h3.2
    refine wpIn_seq (defer_region (by rw [hi1.ri.size]; exact ht) ?_)
    rw [hev, hd1]
    have hclo : ren r1 (.func (.func h) #[] capsD) = .func (.func h) #[] (capsD.map (ren r1)) := by
      have e : capsD.map (ren0 r1) = capsD.map (ren r1) := Array.map_congr_left fun x hx => (ren_plain0 (hpl x hx)).symm
      simp [ren, renA, renF, e]
    have hi2 : GI P ⟨callE W (imO r (rst hp rs)), hp1, r1, G, some .still⟩ fn.ntmps [⟨.fn (.func h) (capsD.map (ren r1)), #[]⟩] r1 ⟨upd ts1 t (.func (.func h) #[] capsD), hp1, B1, 0⟩
        { a1.put (some t) (.func (.func h) #[] (capsD.map (ren r1))) with defers := [⟨.fn (.func h) (capsD.map (ren r1)), #[]⟩] } W1 := by
      have := hi1.ri.put (dst := some t) (v := .func (.func h) #[] capsD) (fun d hd => by cases hd; exact ht) ⟨by simp, fun x hx => (ids_plain0 (hpl x hx)).1 (hids x hx)⟩
      rw [hclo] at this
      obtain ⟨S, ms, h1, h2, h3, h4, h5⟩ := hi1.ri.ext
      exact ⟨⟨this.size, this.rel, this.sat, this.inj, ⟨S, [], h1, h2, h3, ⟨rfl, List.nodup_nil⟩, by simp⟩, fun i hi => ⟨hi, rfl⟩, this.glob, this.low⟩, hi1.free, hi1.low, hGF, fun y hy => by cases hy; intro c x S W _ hx; simp [YG.still] at hx⟩
    refine wpIn_mono (hrest _ _ rfl rfl rfl r1 _ W1 hi2) ?_
    rintro e a' W' ⟨s', r', hpost, hi'⟩
    have hd := hi'.ri.still rfl
    have hag : ∀ k, dom (rst hp rs) k → dom hp1 k ∧ r1 k = r k := fun k hk => ⟨by unfold dom at hk ⊢; rw [hsub k hk]; exact hk, (hi1.ri.keep k hk).2⟩
    have hlead : ∀ (W : World) g, (Target.fn (.func h) (capsD.map (ren r1))).leads P W #[] = some g → (Fw P none).fn g := fun W g hg => by
      simp [Target.leads] at hg
      subst hg
      obtain ⟨_, _, _, _, hr⟩ := hback
      exact hr.fn
    have hinv : ∀ W : World, (invoke (.fn (.func h) (capsD.map (ren r1))) #[]).run P W = .ok (.enter h (capsD.map (ren r1))) W := fun W => by
      obtain ⟨_, _, _, _, hr⟩ := hback
      simp [invoke, hr.enter]
    cases out with
    | ret v ws =>
      obtain ⟨he, hr, hhp⟩ := hpost
      have key : LeavesIn (Fw P none) 0 P fn a'.tmps ((Res.ret v ws).holds r (dom (rst hp rs)) W) a'.defers .returning W' := by
        rw [hd]
        refine leavesIn_cons (by simp) (fun h => by cases h) (hinv W') (hlead W') ?_
        obtain ⟨_, _, _, _, hr'⟩ := hback
        refine CallsDIn.mono (hr'.back _ W' (by simp)) ?_
        rintro e u' W'' ⟨⟨v', rfl⟩, rfl, rfl⟩
        have hrun := run_resG' (fn := fn) hi'.ri.rel hi'.ri.sat hr
        have hend := ri_end hi'.ri (r := r) (hp0 := rst hp rs) rfl hag hsat hcl hhp (fun k hk => by
          have := hfit.2.1 k hk; unfold dom rst at *; simp [this.1]; exact this.2.1) hfit.2.2.1 hfit.2.2.2
        rw [ren_congr (fun k hk => hend.1 k hk) hfit.1] at hrun
        exact ⟨_, hrun, rfl, hend.2⟩
      rcases he with rfl | rfl <;> exact key
    | pan pv rs1 ws1 v =>
      obtain ⟨rfl, hr, hhp, hrec, hd1', hk1, hcl1⟩ := hpost
      show LeavesIn (Fw P none) 0 P fn a'.tmps ((Res.ret v []).holds r (dom (rst hp rs)) W) a'.defers (.panicking _) W'
      rw [hd]
      refine leavesIn_cons (by simp) (fun h => by cases h) (hinv W') (hlead W') ?_
      have hr1 : ∀ k, dom hp1 k → r' k = r1 k := fun k hk => (hi'.ri.keep k hk).2
      have hsub1 : ∀ k, dom (rst hp1 rs1) k → s'.hp k = rst hp1 rs1 k := fun k hk => by
        rw [hhp k (hd1' k hk)]
        unfold dom rst at hk
        unfold rst
        split
        · rfl
        · rename_i hh; simp [hh] at hk
      have hcap : capsD.map (ren r1) = capsD.map (ren r') := Array.map_congr_left fun x hx => ren_congr (fun k hk => (hr1 k hk).symm) (hids x hx)
      rw [hcap]
      have dsub : ∀ k, dom (rst hp1 rs1) k → dom s'.hp k := fun k hk => by unfold dom; rw [hsub1 k hk]; exact hk
      refine CallsDIn.mono (hrec.caught r' W' (fun k b hk => ?_) (fun k l hk hl => hi'.ri.inj k l (dsub k hk) (dsub l hl)) (fun k hk hk' => hi'.ri.low k hk (dsub k hk'))) ?_
      · refine ⟨(hi'.ri.sat k b ?_).1, hcl1 k b hk⟩
        rw [hsub1 k (by unfold dom; rw [hk]; simp)]; exact hk
      rintro e u' W'' ⟨⟨v', rfl⟩, rfl, hturn⟩
      have hset : settle (recd pv) = .returning := rfl
      show LeavesIn _ _ _ _ _ _ [] (settle (recd pv)) W''
      rw [hset]
      have hri : RI ⟨callE W (imO r (rst hp rs)), hp1, r1, G, some .still⟩ fn.ntmps [⟨.fn (.func h) (capsD.map (ren r1)), #[]⟩] r' (putT s'.ts none undef) (updL s'.hp (ws1 ++ [])) s'.yc (a'.put none (ren r' undef)) W'' := by
        refine hi'.ri.after (e := ⟨undef, [], ws1, [], none, false⟩) (fun _ h => by cases h) (fun _ _ => rfl) (ids_undef _) ?_ (fun k hk => ⟨dsub k (hk1 k hk).1, (hk1 k hk).2.1⟩) (by simp [keys])
        have mono : ∀ k, extD (dom (rst hp1 rs1)) [] k → extD (dom s'.hp) [] k := fun k hk => hk.imp (dsub k) (fun h => h)
        exact ⟨hturn.os, hturn.tape, hturn.output, hturn.size, hturn.same, fun p hp1 => ⟨(hturn.has p hp1).1, Blk.ids_mono mono (hturn.has p hp1).2⟩, hturn.fresh, hturn.apart⟩
      simp only [List.append_nil] at hri
      have hrun := run_resG' (fn := fn) hri.rel hri.sat hr
      have hend := ri_end hri (r := r) (hp0 := rst hp rs) (ws := []) rfl hag hsat hcl (fun k hk => by
        simp only [updL]
        rw [updL_other (fun hm => (hk1 k hm).2.2 hk), hhp k (hag k hk).1, hsub k hk]) (by simp [keys]) (by simp) (by simp)
      rw [ren_congr (fun k hk => hend.1 k hk) hfit.1] at hrun
      exact ⟨_, hrun, rfl, hend.2⟩
  · intro t
    right
    dsimp only
    by_cases ht : t < args.size
    · have hm : args[t] ∈ args := Array.getElem_mem ht
      have e : args.getD t undef = args[t] := by simp [Array.getD, ht]
      rw [e]
      refine ⟨?_, ha _ hm⟩
      have : t < (args.map (ren r)).size := by simpa using ht
      simp [Array.getElem?_append_left this, ht]
    · have e : args.getD t undef = undef := by simp [Array.getElem?_eq_none (Nat.le_of_not_lt ht)]
      rw [e]
      refine ⟨?_, ids_undef _⟩
      rw [ren_undef]
      simp only [Array.getD_eq_getD_getElem?]
      rw [Array.getElem?_append_right (by simpa using Nat.le_of_not_lt ht), Array.getElem?_replicate]
      split <;> rfl
end
end Go.Gy
