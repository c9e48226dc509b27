/-
  The ghost layer, part B: what one operation does, by ghost names; a region that draws its order is walked once, in the order of the text.
  Conditions: none beyond the hypotheses of each theorem.
-/
import Derived.Test.YtggidgaeggekhaaDoorGyA
import Derived.TacticsIn
import Derived.OrdersIn
import Derived.RangeFuncLeaves
import Derived.RangeFuncSeq
import Derived.FollowTie
namespace Go.Gy
open Go Go.RowKit

/-- What an operation does: its value, the ghost blocks that it looks at, those that it turns, those that it makes. -/
structure Eff where
  v : Value
  rs : List Nat
  ws : List (Nat × Blk)
  ns : List (Nat × Blk)
  pan : Option Value
  yl : Bool

def keys (l : List (Nat × Blk)) : List Nat := l.map (·.1)
theorem mem_keys {l : List (Nat × Blk)} {k : Nat} : k ∈ keys l ↔ ∃ p ∈ l, p.1 = k := by simp [keys]

def updL (hp : Hp) : List (Nat × Blk) → Hp
  | [] => hp
  | (k, b) :: l => updL (upd hp k (some b)) l

theorem updL_other {l : List (Nat × Blk)} : ∀ {hp : Hp} {k : Nat}, k ∉ keys l → updL hp l k = hp k := by
  induction l with
  | nil => intro hp k _; rfl
  | cons p l ih =>
    intro hp k hk
    obtain ⟨q, b⟩ := p
    simp only [keys, List.map_cons, List.mem_cons, not_or] at hk
    simp only [updL]
    rw [ih (by simpa [keys] using hk.2), upd_other _ _ hk.1]

theorem updL_comm_upd {l : List (Nat × Blk)} : ∀ {hp : Hp} {k : Nat} {b : Option Blk}, k ∉ keys l → updL (upd hp k b) l = upd (updL hp l) k b := by
  induction l with
  | nil => intro hp k b _; rfl
  | cons p l ih =>
    intro hp k b hk
    obtain ⟨q, c⟩ := p
    simp only [keys, List.map_cons, List.mem_cons, not_or] at hk
    simp only [updL]
    rw [upd_comm _ _ _ hk.1, ih (by simpa [keys] using hk.2)]

theorem updL_comm {l m : List (Nat × Blk)} : ∀ {hp : Hp}, (∀ k ∈ keys l, k ∉ keys m) → updL (updL hp l) m = updL (updL hp m) l := by
  induction l with
  | nil => intro hp _; rfl
  | cons p l ih =>
    intro hp h
    obtain ⟨q, c⟩ := p
    simp only [updL]
    rw [ih (fun k hk => h k (by simp [keys] at hk ⊢; exact .inr hk)), updL_comm_upd (h q (by simp [keys]))]

theorem updL_dom {l : List (Nat × Blk)} : ∀ {hp : Hp} {k : Nat}, dom (updL hp l) k ↔ dom hp k ∨ k ∈ keys l := by
  induction l with
  | nil => intro hp k; simp [updL, keys]
  | cons p l ih =>
    intro hp k
    obtain ⟨q, c⟩ := p
    simp only [updL]
    rw [ih]
    by_cases e : k = q
    · subst e; simp [dom, upd_same, keys]
    · simp [dom, upd_other _ _ e, keys, e]

/-- What a list of blocks leaves: the last word on each name counts; where names are not said twice, each. -/
theorem updL_mem {l : List (Nat × Blk)} : ∀ {hp : Hp} {k : Nat} {b : Blk}, updL hp l k = some b → (hp k = some b ∧ k ∉ keys l) ∨ (k, b) ∈ l := by
  induction l with
  | nil => intro hp k b h; exact .inl ⟨h, by simp [keys]⟩
  | cons p l ih =>
    intro hp k b h
    obtain ⟨q, c⟩ := p
    simp only [updL] at h
    rcases ih h with ⟨h1, h2⟩ | h1
    · by_cases e : k = q
      · subst e; rw [upd_same] at h1; cases h1; exact .inr (by simp)
      · rw [upd_other _ _ e] at h1; exact .inl ⟨h1, by simp [keys, e] at h2 ⊢; exact h2⟩
    · exact .inr (List.mem_cons_of_mem _ h1)

/-- The part of a ghost heap that is looked at: the variables of the package (below 100), and the blocks named. -/
def rst (hp : Hp) (rs : List Nat) : Hp := fun k => if k < 100 ∨ k ∈ rs then hp k else none
theorem rst_sub {hp : Hp} {rs : List Nat} {k : Nat} {b : Blk} (h : rst hp rs k = some b) : hp k = some b := by
  unfold rst at h; split at h
  · exact h
  · cases h
theorem rst_congr {hp hp' : Hp} {rs : List Nat} (h : ∀ k, (k < 100 ∨ k ∈ rs) → hp k = hp' k) : rst hp rs = rst hp' rs := by
  funext k; unfold rst; split
  · rename_i hk; exact h k hk
  · rfl

def extD (D : Nat → Prop) (ns : List (Nat × Blk)) : Nat → Prop := fun k => D k ∨ k ∈ keys ns

/-- How a world has turned. -/
structure Turn (r' : Nat → Nat) (D' : Nat → Prop) (W W' : World) (ws ns : List (Nat × Blk)) : Prop where
  os : W'.os = W.os
  tape : W'.tape = W.tape
  output : W'.output = W.output
  size : W.heap.size ≤ W'.heap.size
  same : ∀ k, k < W.heap.size → (∀ p ∈ ws, r' p.1 ≠ k) → W'.heap[k]? = W.heap[k]?
  has : ∀ p ∈ ws ++ ns, W'.heap[r' p.1]? = some (p.2.obj r') ∧ p.2.ids D'
  fresh : ∀ p ∈ ns, W.heap.size ≤ r' p.1
  apart : ∀ p ∈ ns, ∀ q ∈ ns, r' p.1 = r' q.1 → p.1 = q.1

theorem Turn.of_below {r : Nat → Nat} {D : Nat → Prop} {W W' : World} (h : Below W.heap.size W W') : Turn r D W W' [] [] :=
  ⟨h.os, h.tape, h.output, h.size, fun k hk _ => h.block k hk, fun p hp => by simp at hp, fun p hp => by simp at hp, fun p hp => by simp at hp⟩

/-- The fence of all functions that there are. -/
def Fs (P : Program) : Fence := { fn := fun f => ∃ fn, P.funcs[f]? = some fn, depth := none, alive := false }
abbrev CallsS (P : Program) (f : FuncId) (args : Array Value) (W : World) (R : Ending → World → Prop) : Prop := CallsIn (Fs P) 0 P f args W R
theorem CallsS.mono {P : Program} {f : FuncId} {args : Array Value} {W : World} {R R' : Ending → World → Prop} (h : CallsS P f args W R) (hr : ∀ e w, R e w → R' e w) : CallsS P f args W R' := CallsIn.mono h hr
theorem room_Fs (P : Program) (n : Nat) : (Fs P).room n := fun _ h => by simp [Fs] at h
theorem CallsS.calls {P : Program} {f : FuncId} {args : Array Value} {W : World} {R : Ending → World → Prop} (h : CallsS P f args W R) : Calls P f args W R := fun cs => by
  obtain ⟨e, w', fr, r, s, x⟩ := h.2 cs (room_Fs P _)
  refine ⟨e, w', fr, r, ?_, x⟩
  cases e with
  | returned v => exact stepsIn_wide.1 (StepsIn.mono (fun m _ => fenced_wide P m) s)
  | panicked ch => exact stepsIn_wide.1 (StepsIn.mono (fun m _ => fenced_wide P m) s)
  | outgrown => exact s
theorem callFunc_ok {P : Program} {f : FuncId} {args : Array Value} {W W' : World} {x : Next} (h : (callFunc f args).run P W = .ok x W') : ∃ fn, P.funcs[f]? = some fn := by
  unfold callFunc at h
  simp only [Sem.run_bind, run_program, Result.andThen_ok] at h
  cases hf : P.funcs[f]? with
  | none => simp [hf, stuck] at h
  | some fn => exact ⟨fn, rfl⟩

theorem about_ok {P : Program} {o : Oper} {ρ : Operand → Value} {W W' : World} {x : Next} (h : (execOp ρ o).run P W = .ok x W') : ∀ f, o.about P W ρ = some f → (Fs P).fn f := by
  intro f hf
  unfold Oper.about at hf
  unfold execOp at h
  split at hf
  · rename_i c hc
    simp only [hc, Sem.run_bind] at h
    cases hr : (resolve ρ c o.type).run P W with
    | halt y w => rw [hr] at hf; cases hf
    | ok dd w =>
      rw [hr] at hf h
      simp only [Result.andThen_ok] at h
      have ht := invoke_tie P w dd.target dd.args
      have hf' : dd.target.leads P w dd.args = some f := hf
      split at ht
      all_goals first
        | (rcases ht with ⟨g, args', w', h1, h2⟩ | ⟨y, w', h2⟩
           · rw [hf'] at h1
             cases h1
             rw [h2] at h
             exact callFunc_ok h
           · rw [h2] at h
             cases h)
        | (rw [ht] at hf'; cases hf')
  · cases hf

/-- What is asked of an operation's run. -/
def Upon (P : Program) (o : Oper) (a : Act) (W : World) (R Rp : Value → World → Prop) : Prop :=
  match (execOp a.eval o).run P W with
  | .ok (.value u) W' => R u W'
  | .ok .skip W' => R undef W'
  | .ok (.enter f args) W' => CallsS P f args W' (fun e W'' => match e with
      | .returned u => R u W''
      | .panicked ch => ∃ pv, ch = [{ v := pv, recovered := false }] ∧ Rp pv W''
      | .outgrown => False)
  | .halt (.panic pv) W' => o.about P W a.eval = none ∧ Rp pv W'
  | _ => False

def RelOn (o : Oper) (r : Nat → Nat) (D : Nat → Prop) (ts : Nat → Value) (a : Act) : Prop :=
  ∀ t, Operand.tmp t ∈ o.op.operands → ts t = junk ∨ (a.tmps.getD t undef = ren r (ts t) ∧ idsV D (ts t))

/-- ONE OPERATION, BY GHOST NAMES: from whatever world holds the blocks that it looks at. -/
def OpD (P : Program) (o : Oper) (ts : Nat → Value) (hp : Hp) (e : Eff) : Prop :=
  ∀ r D a W, RelOn o r D ts a → Sat r D hp W → Inj r D → (∀ k, k < 100 → D k → r k = k) → (∀ k, dom hp k → D k) → (∀ p ∈ e.ns, ¬ D p.1 ∧ 100 ≤ p.1) →
    Upon P o a W (fun u W' => e.pan = none ∧ ∃ r', (∀ k, D k → r' k = r k) ∧ u = ren r' e.v ∧ idsV (extD D e.ns) e.v ∧ Turn r' (extD D e.ns) W W' e.ws e.ns)
      (fun pv W' => e.pan = some pv ∧ Below W.heap.size W W')

/-- What a region's operations are held to: of whatever kind, it looks at the operands alone. -/
structure OKP where
  ok : Oper → (Nat → Value) → Nat → Hp → Eff → Prop
  congr : ∀ o ts ts' yc yc' hp e, (∀ t, Operand.tmp t ∈ o.op.operands → ts t = ts' t) → (e.yl = true → yc = yc') → ok o ts yc hp e → ok o ts' yc' hp e
  un : Oper → (Nat → Value) → Prop
  uncongr : ∀ o ts ts', (∀ t, Operand.tmp t ∈ o.op.operands → ts t = ts' t) → un o ts → un o ts'

theorem putT_comm (ts : Nat → Value) {x y : Option Tmp} (u v : Value) (h : ∀ d, x = some d → y ≠ some d) : putT (putT ts x u) y v = putT (putT ts y v) x u := by
  cases x with
  | none => rfl
  | some d =>
    cases y with
    | none => rfl
    | some e => exact upd_comm _ _ _ (fun he => h d rfl (by rw [he]))
theorem putT_other (ts : Nat → Value) {x : Option Tmp} {t : Nat} (v : Value) (h : ∀ d, x = some d → t ≠ d) : putT ts x v t = ts t := by
  cases x with
  | none => rfl
  | some d => exact upd_other _ _ (h d rfl)

structure St where
  ts : Nat → Value
  hp : Hp
  lg : Nat → List Nat × List Nat
  yc : Nat
  yd : Bool
  pn : Option Value
  wr : Bool

def St.after (s : St) (i : Nat) (o : Oper) (e : Eff) : St :=
  { ts := putT s.ts o.dst e.v, hp := updL s.hp (e.ws ++ e.ns), lg := upd s.lg i (e.rs, keys e.ws ++ keys e.ns), yc := if e.yl then s.yc + 1 else s.yc, yd := s.yd || e.yl, pn := s.pn.or e.pan, wr := s.wr || !e.ws.isEmpty }
def St.pass (s : St) (o : Oper) : St := { s with ts := putT s.ts o.dst undef }

def wantedG (ops : Array Oper) (o : Oper) (ts : Nat → Value) : Option Bool :=
  match o.guard with
  | none => some true
  | some (j, w) =>
    match (ops[j]?).bind (·.dst) with
    | some d => match ts d with
      | .bool b => some (b == w)
      | .tuple _ => some false
      | _ => none
    | none => some false

def waitsB (md : Region.Mode) (ops : Array Oper) (i j : Nat) : Bool :=
  match ops[i]? with
  | some o => o.after.any fun e => Region.binds md e && e.on == j
  | none => false

/-- What an effect owes the others of its region. -/
structure Fits (md : Region.Mode) (ops : Array Oper) (base i : Nat) (s : St) (e : Eff) : Prop where
  wsrs : ∀ k ∈ keys e.ws, k ∈ e.rs ∧ dom s.hp k ∧ 100 ≤ k
  ids : ∀ k ∈ keys e.ns, base + 8 * i ≤ k ∧ k < base + 8 * i + 8 ∧ 100 ≤ k
  nodup : ∀ k ∈ keys e.ns, s.hp k = none
  once : ∀ k b c, (k, b) ∈ e.ws ++ e.ns → (k, c) ∈ e.ws ++ e.ns → b = c
  log : ∀ j, waitsB md ops i j = false → (∀ k ∈ e.rs ++ keys e.ns, k ∉ (s.lg j).2) ∧ (∀ k ∈ keys e.ws ++ keys e.ns, k ∉ (s.lg j).1)
  new : s.lg i = ([], [])
  pan : e.pan ≠ none → s.pn = none
  yl : e.yl = true → s.yd = false

def gOp (OK : OKP) (md : Region.Mode) (ops : Array Oper) (base i : Nat) (K : St → Prop) (s : St) : Prop :=
  match ops[i]? with
  | none => K s
  | some o => match wantedG ops o s.ts with
    | some true => ∃ e, OK.ok o s.ts s.yc (rst s.hp e.rs) e ∧ Fits md ops base i s e ∧ K (s.after i o e)
    | some false => OK.un o s.ts ∧ K (s.pass o)
    | none => False

def wpAnyG (OK : OKP) (md : Region.Mode) (ops : Array Oper) (base : Nat) (K : St → Prop) : Nat → Array Bool → St → Prop
  | 0, listed, s => Region.ready md ops listed = [] ∧ K s
  | fuel + 1, listed, s =>
    (Region.ready md ops listed = [] → K s) ∧
    ∀ i ∈ Region.ready md ops listed, gOp OK md ops base i (wpAnyG OK md ops base K fuel (listed.setIfInBounds i true)) s

/-- Operation i, at state s, does this. -/
def YieldG (OK : OKP) (md : Region.Mode) (ops : Array Oper) (base i : Nat) (o : Oper) (e : Option Eff) (s : St) : Prop :=
  match e with
  | some e => wantedG ops o s.ts = some true ∧ OK.ok o s.ts s.yc (rst s.hp e.rs) e ∧ Fits md ops base i s e
  | none => wantedG ops o s.ts = some false ∧ OK.un o s.ts

def St.next (s : St) (i : Nat) (o : Oper) : Option Eff → St
  | some e => s.after i o e
  | none => s.pass o

theorem yieldG_gOp {OK : OKP} {md : Region.Mode} {ops : Array Oper} {base i : Nat} {o : Oper} {e : Option Eff} {s : St} {K : St → Prop} (hi : ops[i]? = some o) (hy : YieldG OK md ops base i o e s) (h : K (s.next i o e)) :
    gOp OK md ops base i K s := by
  unfold gOp; simp only [hi]
  cases e with
  | some e => obtain ⟨h1, h2, h3⟩ := hy; simp only [h1]; exact ⟨e, h2, h3, h⟩
  | none => simp only [YieldG] at hy; simp only [hy.1]; exact ⟨hy.2, h⟩

theorem gOp_yieldG {OK : OKP} {md : Region.Mode} {ops : Array Oper} {base i : Nat} {o : Oper} {s : St} {K : St → Prop} (hi : ops[i]? = some o) (h : gOp OK md ops base i K s) :
    ∃ e, YieldG OK md ops base i o e s ∧ K (s.next i o e) := by
  unfold gOp at h; simp only [hi] at h
  cases hw : wantedG ops o s.ts with
  | none => rw [hw] at h; exact h.elim
  | some b =>
    cases b with
    | true => rw [hw] at h; obtain ⟨e, h1, h2, h3⟩ := h; exact ⟨some e, ⟨hw, h1, h2⟩, h3⟩
    | false => rw [hw] at h; exact ⟨none, ⟨hw, h.1⟩, h.2⟩

theorem wantedG_congr {ops : Array Oper} {o : Oper} {ts ts' : Nat → Value} (h : ∀ t ∈ o.looksAt ops, ts t = ts' t) : wantedG ops o ts = wantedG ops o ts' := by
  unfold wantedG
  cases hg : o.guard with
  | none => rfl
  | some g =>
    obtain ⟨j, w⟩ := g
    cases hd : (ops[j]?).bind (·.dst) with
    | none => simp [hd]
    | some d =>
      have : ts d = ts' d := h d (by simp [Oper.looksAt, hg, hd])
      simp [hd, this]

theorem OpD.congr {P : Program} {o : Oper} {ts ts' : Nat → Value} {hp : Hp} {e : Eff} (h : OpD P o ts hp e) (ht : ∀ t, Operand.tmp t ∈ o.op.operands → ts t = ts' t) : OpD P o ts' hp e :=
  fun r D a W hr => h r D a W (fun t ht' => by rw [ht t ht']; exact hr t ht')

theorem looksAt_of_operand {ops : Array Oper} {o : Oper} {t : Tmp} (h : Operand.tmp t ∈ o.op.operands) : t ∈ o.looksAt ops :=
  List.mem_append_left _ (List.mem_filterMap.2 ⟨.tmp t, by simpa using h, rfl⟩)

def logOf (s : St) (i : Nat) : Option Eff → Nat → List Nat × List Nat
  | some e => upd s.lg i (e.rs, keys e.ws ++ keys e.ns)
  | none => s.lg

/-- Two operations that do not wait for each other may change places. -/
theorem yieldG_swap {OK : OKP} {md : Region.Mode} {ops : Array Oper} {base i j : Nat} {oi oj : Oper} {ei ej : Option Eff} {s : St} (hne : i ≠ j)
    (hap : oi.apart ops oj = true) (hw : waitsB md ops j i = false) (hw' : waitsB md ops i j = false)
    (hy : YieldG OK md ops base i oi ei s) (h : YieldG OK md ops base j oj ej (s.next i oi ei)) :
    YieldG OK md ops base j oj ej s ∧ YieldG OK md ops base i oi ei (s.next j oj ej) ∧ (s.next i oi ei).next j oj ej = (s.next j oj ej).next i oi ei := by
  obtain ⟨h1, h2, h3⟩ := Oper.apart_spec hap
  have tsj : ∀ v, ∀ t ∈ oj.looksAt ops, putT s.ts oi.dst v t = s.ts t := fun v t ht => putT_other _ _ (fun d hd e => h1 d hd (e ▸ ht))
  have tsi : ∀ v, ∀ t ∈ oi.looksAt ops, putT s.ts oj.dst v t = s.ts t := fun v t ht => putT_other _ _ (fun d hd e => h3 d hd (e ▸ ht))
  cases ei with
  | none =>
    cases ej with
    | none =>
      refine ⟨?_, ?_, ?_⟩
      · simp only [YieldG, St.next, St.pass] at h ⊢; rw [← h.1]; exact ⟨wantedG_congr (fun t ht => (tsj _ t ht).symm), OK.uncongr _ _ _ (fun t ht => tsj _ t (looksAt_of_operand ht)) h.2⟩
      · simp only [YieldG, St.next, St.pass] at hy ⊢; rw [← hy.1]; exact ⟨wantedG_congr (fun t ht => tsi _ t ht), OK.uncongr _ _ _ (fun t ht => (tsi _ t (looksAt_of_operand ht)).symm) hy.2⟩
      · simp only [St.next, St.pass]; rw [putT_comm _ _ _ h2]
    | some e =>
      obtain ⟨a1, a2, a3⟩ := h
      refine ⟨⟨?_, ?_, ?_⟩, ?_, ?_⟩
      · rw [← a1]; exact wantedG_congr (fun t ht => (tsj _ t ht).symm)
      · exact OK.congr _ _ _ _ _ _ _ (fun t ht => tsj _ t (looksAt_of_operand ht)) (fun _ => rfl) a2
      · exact ⟨a3.wsrs, a3.ids, a3.nodup, a3.once, a3.log, a3.new, a3.pan, a3.yl⟩
      · simp only [YieldG, St.next, St.after] at hy ⊢; rw [← hy.1]; exact ⟨wantedG_congr (fun t ht => tsi _ t ht), OK.uncongr _ _ _ (fun t ht => (tsi _ t (looksAt_of_operand ht)).symm) hy.2⟩
      · simp only [St.next, St.pass, St.after]; rw [putT_comm _ _ _ h2]
  | some e =>
    obtain ⟨b1, b2, b3⟩ := hy
    cases ej with
    | none =>
      refine ⟨?_, ⟨?_, ?_, ?_⟩, ?_⟩
      · simp only [YieldG, St.next, St.after] at h ⊢; rw [← h.1]; exact ⟨wantedG_congr (fun t ht => (tsj _ t ht).symm), OK.uncongr _ _ _ (fun t ht => tsj _ t (looksAt_of_operand ht)) h.2⟩
      · simp only [St.next, St.pass]; rw [← b1]; exact wantedG_congr (fun t ht => tsi _ t ht)
      · simp only [St.next, St.pass]; exact OK.congr _ _ _ _ _ _ _ (fun t ht => (tsi _ t (looksAt_of_operand ht)).symm) (fun _ => rfl) b2
      · exact ⟨b3.wsrs, b3.ids, b3.nodup, b3.once, b3.log, b3.new, b3.pan, b3.yl⟩
      · simp only [St.next, St.pass, St.after]; rw [putT_comm _ _ _ h2]
    | some f =>
      obtain ⟨a1, a2, a3⟩ := h
      simp only [St.next, St.after] at a1 a2 a3
      have lgi : (upd s.lg i (e.rs, keys e.ws ++ keys e.ns)) i = (e.rs, keys e.ws ++ keys e.ns) := upd_same _ _ _
      have hlog := a3.log i hw
      simp only [lgi] at hlog
      -- what e touches f does not turn, and the other way about
      have k1 : ∀ k ∈ f.rs ++ keys f.ns, k ∉ keys (e.ws ++ e.ns) := fun k hk hm => hlog.1 k hk (by simpa [keys] using hm)
      have k2 : ∀ k ∈ keys (f.ws ++ f.ns), k ∉ e.rs := fun k hk => hlog.2 k (by simpa [keys] using hk)
      have k3 : ∀ k ∈ keys (e.ws ++ e.ns), k ∉ keys (f.ws ++ f.ns) := fun k hk hm => by
        have hm' : k ∈ keys f.ws ∨ k ∈ keys f.ns := by simpa [keys] using hm
        rcases hm' with hm' | hm'
        · exact k1 k (List.mem_append_left _ (a3.wsrs k hm').1) hk
        · exact k1 k (List.mem_append_right _ hm') hk
      have big : ∀ k ∈ keys (e.ws ++ e.ns), 100 ≤ k := fun k hk => by
        have : k ∈ keys e.ws ∨ k ∈ keys e.ns := by simpa [keys] using hk
        rcases this with h | h
        · exact (b3.wsrs k h).2.2
        · exact (b3.ids k h).2.2
      have big' : ∀ k ∈ keys (f.ws ++ f.ns), 100 ≤ k := fun k hk => by
        have : k ∈ keys f.ws ∨ k ∈ keys f.ns := by simpa [keys] using hk
        rcases this with h | h
        · exact (a3.wsrs k h).2.2
        · exact (a3.ids k h).2.2
      have r1 : rst (updL s.hp (e.ws ++ e.ns)) f.rs = rst s.hp f.rs := rst_congr fun k hk => updL_other fun hm => by
        rcases hk with hk | hk
        · have := big k hm; omega
        · exact k1 k (List.mem_append_left _ hk) hm
      have r2 : rst (updL s.hp (f.ws ++ f.ns)) e.rs = rst s.hp e.rs := rst_congr fun k hk => updL_other fun hm => by
        rcases hk with hk | hk
        · have := big' k hm; omega
        · exact k2 k hm hk
      have lgj : s.lg j = ([], []) := by have := a3.new; dsimp only at this; rwa [upd_other _ _ (Ne.symm hne)] at this
      have yls : f.yl = true → e.yl = false ∧ s.yd = false := fun hf => by
        have := a3.yl hf; simp only [Bool.or_eq_false_iff] at this; exact ⟨this.2, this.1⟩
      have yls' : e.yl = true → f.yl = false := fun he => by
        cases hf : f.yl with
        | false => rfl
        | true => rw [(yls hf).1] at he; cases he
      have pns : f.pan ≠ none → e.pan = none ∧ s.pn = none := fun hf => by
        have := a3.pan hf; simp only [Option.or_eq_none_iff] at this; exact ⟨this.2, this.1⟩
      have pns' : e.pan ≠ none → f.pan = none := fun he => by
        cases hf : f.pan with
        | none => rfl
        | some v => exact absurd (pns (by rw [hf]; simp)).1 he
      refine ⟨⟨?_, ?_, ?_⟩, ⟨?_, ?_, ?_⟩, ?_⟩
      · rw [← a1]; exact wantedG_congr (fun t ht => (tsj _ t ht).symm)
      · rw [← r1]; exact OK.congr _ _ _ _ _ _ _ (fun t ht => tsj _ t (looksAt_of_operand ht)) (fun hf => by rw [(yls hf).1]; simp) a2
      · refine ⟨fun k hk => ⟨(a3.wsrs k hk).1, ?_, (a3.wsrs k hk).2.2⟩, a3.ids, fun k hk => ?_, a3.once, fun q hq => ?_, lgj, fun hf => (pns hf).2, fun hf => (yls hf).2⟩
        · rcases updL_dom.1 (a3.wsrs k hk).2.1 with h | h
          · exact h
          · exact absurd h (k1 k (List.mem_append_left _ (a3.wsrs k hk).1))
        · have := a3.nodup k hk
          dsimp only at this
          rwa [updL_other (k1 k (List.mem_append_right _ hk))] at this
        · by_cases hqi : q = i
          · subst hqi; rw [b3.new]; simp
          · have := a3.log q hq; dsimp only at this; rwa [upd_other _ _ hqi] at this
      · simp only [St.next, St.after]; rw [← b1]; exact wantedG_congr (fun t ht => tsi _ t ht)
      · simp only [St.next, St.after]; rw [r2]; exact OK.congr _ _ _ _ _ _ _ (fun t ht => (tsi _ t (looksAt_of_operand ht)).symm) (fun he => by rw [yls' he]; simp) b2
      · simp only [St.next, St.after]
        refine ⟨fun k hk => ⟨(b3.wsrs k hk).1, updL_dom.2 (.inl (b3.wsrs k hk).2.1), (b3.wsrs k hk).2.2⟩, b3.ids, fun k hk => ?_, b3.once, fun q hq => ?_, ?_, fun he => ?_, fun he => ?_⟩
        · show updL s.hp (f.ws ++ f.ns) k = none
          rw [updL_other (fun hm => k3 k (by simpa [keys] using Or.inr (by simpa [keys] using hk)) hm)]
          exact b3.nodup k hk
        · by_cases hqj : q = j
          · subst hqj
            simp only [upd_same]
            refine ⟨fun k hk hm => ?_, fun k hk hm => ?_⟩
            · rcases List.mem_append.1 hk with hk | hk
              · exact k2 k (by simpa [keys] using hm) hk
              · exact k3 k (by simp [keys] at hk ⊢; exact .inr hk) (by simpa [keys] using hm)
            · exact k1 k (List.mem_append_left _ hm) (by simpa [keys] using hk)
          · simp only [upd_other _ _ hqj]; exact b3.log q hq
        · show upd s.lg j _ i = _
          rw [upd_other _ _ hne]; exact b3.new
        · show s.pn.or f.pan = none
          rw [b3.pan he, pns' he]; rfl
        · show (s.yd || f.yl) = false
          rw [b3.yl he, yls' he]; rfl
      · simp only [St.next, St.after]
        rw [putT_comm _ _ _ h2, updL_comm k3, upd_comm _ _ _ hne, Bool.or_right_comm, Bool.or_right_comm s.wr]
        have e1 : (s.pn.or e.pan).or f.pan = (s.pn.or f.pan).or e.pan := by
          cases he : e.pan with
          | none => cases hf : f.pan <;> cases s.pn <;> rfl
          | some v => rw [pns' (by rw [he]; simp)]; cases s.pn <;> rfl
        have e2 : (if f.yl = true then (if e.yl = true then s.yc + 1 else s.yc) + 1 else if e.yl = true then s.yc + 1 else s.yc) = (if e.yl = true then (if f.yl = true then s.yc + 1 else s.yc) + 1 else if f.yl = true then s.yc + 1 else s.yc) := by
          cases e.yl <;> cases f.yl <;> rfl
        rw [e1, e2]

theorem waitsB_of {md : Region.Mode} {ops : Array Oper} {i j : Nat} {o : Oper} (ho : ops[i]? = some o) (h : ∀ e ∈ o.after, Region.binds md e = true → e.on ≠ j) : waitsB md ops i j = false := by
  unfold waitsB; simp only [ho]
  rw [Array.any_eq_false]
  intro k hk
  have hm : o.after[k] ∈ o.after := Array.getElem_mem hk
  cases hb : Region.binds md o.after[k] with
  | false => simp
  | true => simpa using h _ hm hb

/-- An operation that may come up now may be taken first. -/
theorem wpAnyG_first {OK : OKP} {md : Region.Mode} {ops : Array Oper} {base : Nat} {K : St → Prop} {i : Nat} {oi : Oper} {ei : Option Eff} (hi : ops[i]? = some oi) :
    ∀ (fuel : Nat) (listed : Array Bool) (s : St),
      (∀ j oj, ops[j]? = some oj → j ≠ i → listed.getD j true = false → (∀ e ∈ oj.after, Region.binds md e = true → e.on ≠ i) → oi.apart ops oj = true) →
      i ∈ Region.ready md ops listed → YieldG OK md ops base i oi ei s →
      wpAnyG OK md ops base K fuel (listed.setIfInBounds i true) (s.next i oi ei) → wpAnyG OK md ops base K (fuel + 1) listed s := by
  intro fuel
  induction fuel with
  | zero =>
    intro listed s _ hr hy H
    refine ⟨fun h => (by rw [h] at hr; cases hr), fun j hj => ?_⟩
    by_cases hji : j = i
    · subst hji; exact yieldG_gOp hi hy H
    · have := ready_mono hj hji
      rw [H.1] at this
      cases this
  | succ fuel ih =>
    intro listed s hfree hr hy H
    refine ⟨fun h => (by rw [h] at hr; cases hr), fun j hj => ?_⟩
    by_cases hji : j = i
    · subst hji; exact yieldG_gOp hi hy H
    · have h1 := H.2 j (ready_mono hj hji)
      obtain ⟨hjun, oj, hoj, hall⟩ := mem_ready.1 hj
      obtain ⟨hiun, oi', hoi', halli⟩ := mem_ready.1 hr
      rw [hi] at hoi'; cases hoi'
      have lt_of : ∀ {k : Nat}, listed.getD k true = false → listed.getD k false = true → False := fun {k} h0 h1 => by
        rcases Nat.lt_or_ge k listed.size with h' | h'
        · simp [h'] at h0 h1; rw [h0] at h1; cases h1
        · simp [Array.getElem?_eq_none h'] at h1
      have hnot : ∀ e ∈ oj.after, Region.binds md e = true → e.on ≠ i := fun e he hb heq => lt_of hiun (heq ▸ hall e he hb)
      have hnot' : ∀ e ∈ oi.after, Region.binds md e = true → e.on ≠ j := fun e he hb heq => lt_of hjun (heq ▸ halli e he hb)
      obtain ⟨ej, hyj, hK⟩ := gOp_yieldG hoj h1
      obtain ⟨c1, c2, c3⟩ := yieldG_swap (Ne.symm hji) (hfree j oj hoj hji hjun hnot) (waitsB_of hoj hnot) (waitsB_of hi hnot') hy hyj
      have hfree' : ∀ k ok, ops[k]? = some ok → k ≠ i → (listed.setIfInBounds j true).getD k true = false →
          (∀ e ∈ ok.after, Region.binds md e = true → e.on ≠ i) → oi.apart ops ok = true := fun k ok hk hki hun hno => by
        refine hfree k ok hk hki ?_ hno
        by_cases hjk : j = k
        · subst hjk; exact hjun
        · rw [getD_set_ne true hjk] at hun; exact hun
      refine yieldG_gOp hoj c1 (ih (listed.setIfInBounds j true) _ hfree' (ready_mono hr (Ne.symm hji)) c2 ?_)
      rw [Array.setIfInBounds_comm _ _ hji, ← c3]
      exact hK

/-- The walk in the order of the text. -/
def wpLex (OK : OKP) (md : Region.Mode) (ops : Array Oper) (base : Nat) (K : St → Prop) : Nat → List Oper → St → Prop
  | _, [], s => K s
  | k, o :: rest, s => match wantedG ops o s.ts with
    | some true => ∃ e, OK.ok o s.ts s.yc (rst s.hp e.rs) e ∧ Fits md ops base k s e ∧ wpLex OK md ops base K (k + 1) rest (s.after k o e)
    | some false => OK.un o s.ts ∧ wpLex OK md ops base K (k + 1) rest (s.pass o)
    | none => False

theorem wpAnyG_lex {OK : OKP} {md : Region.Mode} {ops : Array Oper} {base : Nat} {K : St → Prop} : ∀ (l : List Oper) (k : Nat) (listed : Array Bool) (s : St), (∀ j, l[j]? = ops[k + j]?) →
    Region.lexFrom md ops l.length k listed = true → wpLex OK md ops base K k l s → wpAnyG OK md ops base K l.length listed s
  | [], _, _, _, _, hB, h => ⟨by simpa [Region.lexFrom] using hB, h⟩
  | o :: l, k, listed, s, hl, hB, h => by
    have h0 : ops[k]? = some o := by simpa using (hl 0).symm
    simp only [List.length_cons, Region.lexFrom, Bool.and_eq_true] at hB
    obtain ⟨⟨hr, hf⟩, hB'⟩ := hB
    have hst : gOp OK md ops base k (wpLex OK md ops base K (k + 1) l) s := by unfold gOp; simp only [h0]; exact h
    obtain ⟨e, hy, hK⟩ := gOp_yieldG h0 hst
    exact wpAnyG_first h0 l.length listed s (Region.free_spec h0 hf) (by simpa using hr) hy
      (wpAnyG_lex l (k + 1) _ _ (fun j => by have := hl (j + 1); simpa [Nat.add_assoc, Nat.add_comm 1 j] using this) hB' hK)

end Go.Gy
