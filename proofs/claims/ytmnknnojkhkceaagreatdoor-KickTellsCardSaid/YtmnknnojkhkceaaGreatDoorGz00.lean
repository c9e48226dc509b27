/-
  Lemmas of this claim, in their order (GyA, GyB, GyC, GyD, GyB2, GyMP, GyE).
  Conditions: those of each theorem.
-/
import Derived.Orders
import Derived.Still
import Derived.Below
import Derived.RangeFuncRecord
import Derived.Tactics2
import Derived.TacticsIn
import Derived.OrdersIn
import Derived.RangeFuncLeaves
import Derived.RangeFuncSeq
import Derived.FollowTie
import Derived.RegionTactic
import Derived.Deep.MidRow
import Derived.ChangeKeysEq
import Derived.Laws.StructEq
import Derived.Laws.Cover3
import Derived.MapKept
set_option linter.unusedSimpArgs false
set_option linter.unusedVariables false
namespace Go.Gy
open Go Go.RowKit

inductive BTy
 | ty (t:TypeId)
 | raw (t:TypeId) (fr:Nat×Nat)
 | mp
def BTy.own:BTy->Bool
 | .ty _=>true
 | .raw _ _=>false
 | .mp=>false
def BTy.rd:BTy->Bool
 | .mp=>false
 | _=>true
@[simp] theorem BTy.own_ty (t:TypeId):BTy.own (.ty t)=true:=rfl
instance:Coe TypeId BTy:=⟨.ty⟩
structure Blk where
 c:Array Value
 T:BTy

abbrev Hp:=Nat->Option Blk

def upd {α:Type} (f:Nat->α) (k:Nat) (v:α):Nat->α:=λj=>if j=k then v else f j

theorem zbg {α:Type} (f:Nat->α) (k:Nat) (v:α):upd f k v k=v:=by simp [upd]
theorem zaa {α:Type} (f:Nat->α) {k j:Nat} (v:α) (h:j≠k):upd f k v j=f j:=by simp [upd,h]
theorem znv {α:Type} (f:Nat->α) {k l:Nat} (u v:α) (h:k≠l):upd (upd f k u) l v=upd (upd f l v) k u:=by
 funext j;unfold upd;by_cases h1:j=l<;>by_cases h2:j=k<;>simp_all

def zao (r:Nat->Nat):Value->Value
 | .pointer (some a)=>.pointer (some { a with block:=r a.block })
 | .slice (some a) n c=>.slice (some { a with block:=r a.block }) n c
 | .map (some b)=>.map (some (r b))
 | v=>v
def zan (r:Nat->Nat):Value->Value
 | .func fn first cap=>.func fn (first.map (zao r)) (cap.map (zao r))
 | .iface t v=>.iface t (zao r v)
 | v=>zao r v
def zas (r:Nat->Nat):Value->Value
 | .agg cs=>.agg (cs.map (zan r))
 | v=>zan r v
def ren (r:Nat->Nat):Value->Value
 | .tuple vs=>.tuple (vs.map (zas r))
 | v=>zas r v

def zal (D:Nat->Prop):Value->Prop
 | .pointer (some a)=>D a.block
 | .slice (some a) _ _=>D a.block
 | .map (some b)=>D b
 | _=>True
def zaj (D:Nat->Prop):Value->Prop
 | .func _ first cap=>(∀ x∈first,zal D x)/\(∀ x∈cap,zal D x)
 | .iface _ v=>zal D v
 | v=>zal D v
def zau (D:Nat->Prop):Value->Prop
 | .agg cs=>∀ x∈cs,zaj D x
 | v=>zaj D v
def zap (D:Nat->Prop):Value->Prop
 | .tuple vs=>∀ x∈vs,zau D x
 | v=>zau D v

section congr
variable {D D':Nat->Prop} {r r':Nat->Nat}
theorem zgp (h:∀ k,D k->D' k):∀ {v:Value},zal D v->zal D' v:=by
 intro v;unfold zal;split<;>first|exact h _|exact id
theorem zh8 (h:∀ k,D k->D' k):∀ {v:Value},zaj D v->zaj D' v:=by
 intro v
 unfold zaj
 split
 ·exact λ⟨a,b⟩=>⟨λx hx=>zgp h (a x hx),λx hx=>zgp h (b x hx)⟩
 ·exact zgp h
 ·exact zgp h
theorem zov (h:∀ k,D k->D' k):∀ {v:Value},zau D v->zau D' v:=by
 intro v;unfold zau;split
 ·exact λa x hx=>zh8 h (a x hx)
 ·exact zh8 h
theorem zcd (h:∀ k,D k->D' k):∀ {v:Value},zap D v->zap D' v:=by
 intro v;unfold zap;split
 ·exact λa x hx=>zov h (a x hx)
 ·exact zov h
theorem zg4 (h:∀ k,D k->r' k=r k):∀ {v:Value},zal D v->zao r' v=zao r v:=by
 intro v;unfold zal;split<;>intro hd<;>simp_all [zao]
theorem zg5 (h:∀ k,D k->r' k=r k):∀ {v:Value},zaj D v->zan r' v=zan r v:=by
 intro v hv
 unfold zaj at hv
 split at hv
 ·obtain ⟨a,b⟩:=hv
  simp only [zan]
  rw [Array.map_congr_left (λx hx=>zg4 h (a x hx)),Array.map_congr_left (λx hx=>zg4 h (b x hx))]
 ·simp only [zan];rw [zg4 h hv]
 ·rename_i h1 h2
  unfold zan
  split
  ·exact absurd rfl (h1 _ _ _)
  ·exact absurd rfl (h2 _ _)
  ·exact zg4 h hv
theorem zmf (h:∀ k,D k->r' k=r k):∀ {v:Value},zau D v->zas r' v=zas r v:=by
 intro v hv
 unfold zau at hv
 split at hv
 ·simp only [zas]
  rw [Array.map_congr_left (λx hx=>zg5 h (hv x hx))]
 ·rename_i h1
  unfold zas
  split
  ·exact absurd rfl (h1 _)
  ·exact zg5 h hv
theorem zc6 (h:∀ k,D k->r' k=r k):∀ {v:Value},zap D v->ren r' v=ren r v:=by
 intro v hv
 unfold zap at hv
 split at hv
 ·simp only [ren]
  rw [Array.map_congr_left (λx hx=>zmf h (hv x hx))]
 ·rename_i h1
  unfold ren
  split
  ·exact absurd rfl (h1 _)
  ·exact zmf h hv
end congr

def mpL:List Value->Nat->List MapEntry
 | k::v::l,i=>⟨k,v,i⟩::mpL l (i+1)
 | _,_=>[]
def z9w (c:Array Value):Obj:=.map (mpL c.toList 0).toArray (mpL c.toList 0).length
def Blk.obj (r:Nat->Nat) (b:Blk):Obj:=match b.T with
 | .ty t=>.cells (b.c.map (zan r)) t (0,0)
 | .raw t fr=>.cells b.c t fr
 | .mp=>z9w (b.c.map (zan r))
def Blk.obj0 (b:Blk):Obj:=match b.T with
 | .ty t=>.cells b.c t (0,0)
 | .raw t fr=>.cells b.c t fr
 | .mp=>z9w b.c
def Blk.ids (D:Nat->Prop) (b:Blk):Prop:=match b.T with
 | .ty _=>∀ x∈b.c,zaj D x
 | .raw _ _=>True
 | .mp=>∀ x∈b.c,zaj D x
theorem Blk.ids_of {D:Nat->Prop} {b:Blk} (h:∀ x∈b.c,zaj D x):b.ids D:=by
 unfold Blk.ids;split
 ·exact h
 ·trivial
 ·exact h
theorem Blk.obj_congr {D:Nat->Prop} {r r':Nat->Nat} (h:∀ k,D k->r' k=r k) {b:Blk} (hb:b.ids D):b.obj r'=b.obj r:=by
 obtain ⟨c,T⟩:=b
 cases T with
 | ty t =>
  unfold Blk.obj
  simp only
  rw [Array.map_congr_left (λx hx=>zg5 h (hb x hx))]
 | raw t fr=>rfl
 | mp =>
  unfold Blk.obj
  simp only
  rw [Array.map_congr_left (λx hx=>zg5 h (hb x hx))]
theorem Blk.ids_mono {D D':Nat->Prop} (h:∀ k,D k->D' k) {b:Blk} (hb:b.ids D):b.ids D':=by
 obtain ⟨c,T⟩:=b
 cases T with
 | ty t=>exact λx hx=>zh8 h (hb x hx)
 | raw t fr=>trivial
 | mp=>exact λx hx=>zh8 h (hb x hx)

theorem Blk.obj_loop {r:Nat->Nat} {b:Blk} {L:Loop} (h:some (Obj.loop L)=some (b.obj r)):False:=by
 obtain ⟨c,T⟩:=b
 cases T<;>cases h
theorem Blk.obj_def {r:Nat->Nat} {b:Blk} {x:Option (List Deferred)} (h:some (Obj.deferred x)=some (b.obj r)):False:=by
 obtain ⟨c,T⟩:=b
 cases T<;>cases h
theorem Blk.obj0_def {b:Blk} {x:Option (List Deferred)} (h:some (Obj.deferred x)=some b.obj0):False:=by
 obtain ⟨c,T⟩:=b
 cases T<;>cases h
def dom (hp:Hp):Nat->Prop:=λk=>hp k≠none

def zbz:Value:=.complex .f32 0 1

def Rel (r:Nat->Nat) (D:Nat->Prop) (ts:Nat->Value) (a:Act):Prop :=
 ∀ t,ts t=zbz\/(a.tmps.getD t undef=ren r (ts t)/\zap D (ts t))

def Sat (r:Nat->Nat) (D:Nat->Prop) (hp:Hp) (W:World):Prop :=
 ∀ k b,hp k=some b->W.heap[r k]? = some (b.obj r)/\b.ids D
def Inj (r:Nat->Nat) (D:Nat->Prop):Prop:=∀ k l,D k->D l->r k=r l->k=l

theorem Rel.mono {r r':Nat->Nat} {D D':Nat->Prop} {ts:Nat->Value} {a:Act} (h:Rel r D ts a) (hD:∀ k,D k->D' k) (hr:∀ k,D k->r' k=r k):Rel r' D' ts a :=
 λt=>(h t).imp id λh=>⟨by rw [h.1,zc6 hr h.2],zcd hD h.2⟩

def zbl (ts:Nat->Value) (dst:Option Tmp) (v:Value):Nat->Value :=
 match dst with
 | some d=>upd ts d v
 | none=>ts

theorem Rel.put {r:Nat->Nat} {D:Nat->Prop} {ts:Nat->Value} {a:Act} (h:Rel r D ts a) {dst:Option Tmp} (hd:∀ d,dst=some d->d<a.tmps.size) {v:Value} (hv:zap D v) :
  Rel r D (zbl ts dst v) (a.put dst (ren r v)):=by
 cases dst with
 | none=>exact h
 | some d =>
  intro t
  have hlt:=hd d rfl
  by_cases e:t=d
  ·subst e
   simp only [zbl,zbg]
   exact .inr ⟨by simp [Act.put,hlt],hv⟩
  ·simp only [zbl,zaa _ _ e]
   refine (h t).imp id λh=>⟨?_,h.2⟩
   rw [<-h.1]
   simp [Act.put,Array.getElem?_setIfInBounds_ne (Ne.symm e)]

theorem zcp (r:Nat->Nat):ren r undef=undef:=by simp [undef,ren]
theorem zdb (D:Nat->Prop):zap D undef:=by simp [undef,zap]


structure Eff where
  v : Value
  rs : List Nat
  ws : List (Nat × Blk)
  ns : List (Nat × Blk)
  pan : Option Value
  yl : Bool

def zab (l : List (Nat × Blk)) : List Nat := l.map (·.1)
theorem zah {l : List (Nat × Blk)} {k : Nat} : k ∈ zab l ↔ ∃ p ∈ l, p.1 = k := by simp [zab]

def zaw (hp : Hp) : List (Nat × Blk) -> Hp
  | [] => hp
  | (k, b) :: l => zaw (upd hp k (some b)) l

theorem zbb {l : List (Nat × Blk)} : ∀ {hp : Hp} {k : Nat}, k ∉ zab l -> zaw hp l k = hp k := by
  induction l with
  | nil => intro hp k _; rfl
  | cons p l ih =>
    intro hp k hk
    obtain ⟨q, b⟩ := p
    simp only [zab, List.map_cons, List.mem_cons, not_or] at hk
    simp only [zaw]
    rw [ih (by simpa [zab] using hk.2), zaa _ _ hk.1]

theorem zdg {l : List (Nat × Blk)} : ∀ {hp : Hp} {k : Nat} {b : Option Blk}, k ∉ zab l -> zaw (upd hp k b) l = upd (zaw hp l) k b := by
  induction l with
  | nil => intro hp k b _; rfl
  | cons p l ih =>
    intro hp k b hk
    obtain ⟨q, c⟩ := p
    simp only [zab, List.map_cons, List.mem_cons, not_or] at hk
    simp only [zaw]
    rw [znv _ _ _ hk.1, ih (by simpa [zab] using hk.2)]

theorem z1a {l m : List (Nat × Blk)} : ∀ {hp : Hp}, (∀ k ∈ zab l, k ∉ zab m) -> zaw (zaw hp l) m = zaw (zaw hp m) l := by
  induction l with
  | nil => intro hp _; rfl
  | cons p l ih =>
    intro hp h
    obtain ⟨q, c⟩ := p
    simp only [zaw]
    rw [ih (λk hk => h k (by simp [zab] at hk |-; exact .inr hk)), zdg (h q (by simp [zab]))]

theorem zj5 {l : List (Nat × Blk)} : ∀ {hp : Hp} {k : Nat}, dom (zaw hp l) k ↔ dom hp k \/ k ∈ zab l := by
  induction l with
  | nil => intro hp k; simp [zaw, zab]
  | cons p l ih =>
    intro hp k
    obtain ⟨q, c⟩ := p
    simp only [zaw]
    rw [ih]
    by_cases e : k = q
    · subst e; simp [dom, zbg, zab]
    · simp [dom, zaa _ _ e, zab, e]

theorem ztx {l : List (Nat × Blk)} : ∀ {hp : Hp} {k : Nat} {b : Blk}, zaw hp l k = some b -> (hp k = some b /\ k ∉ zab l) \/ (k, b) ∈ l := by
  induction l with
  | nil => intro hp k b h; exact .inl ⟨h, by simp [zab]⟩
  | cons p l ih =>
    intro hp k b h
    obtain ⟨q, c⟩ := p
    simp only [zaw] at h
    rcases ih h with ⟨h1, h2⟩ | h1
    · by_cases e : k = q
      · subst e; rw [zbg] at h1; cases h1; exact .inr (by simp)
      · rw [zaa _ _ e] at h1; exact .inl ⟨h1, by simp [zab, e] at h2 |-; exact h2⟩
    · exact .inr (List.mem_cons_of_mem _ h1)

def rst (hp : Hp) (rs : List Nat) : Hp := λk => if k < 100 \/ k ∈ rs then hp k else none
theorem zer {hp : Hp} {rs : List Nat} {k : Nat} {b : Blk} (h : rst hp rs k = some b) : hp k = some b := by
  unfold rst at h; split at h
  · exact h
  · cases h
theorem zfu {hp hp' : Hp} {rs : List Nat} (h : ∀ k, (k < 100 \/ k ∈ rs) -> hp k = hp' k) : rst hp rs = rst hp' rs := by
  funext k; unfold rst; split
  · rename_i hk; exact h k hk
  · rfl

def zc7 (D : Nat -> Prop) (ns : List (Nat × Blk)) : Nat -> Prop := λk => D k \/ k ∈ zab ns

structure Turn (r' : Nat -> Nat) (D' : Nat -> Prop) (W W' : World) (ws ns : List (Nat × Blk)) : Prop where
  os : W'.os = W.os
  tape : W'.tape = W.tape
  output : W'.output = W.output
  size : W.heap.size <= W'.heap.size
  same : ∀ k, k < W.heap.size -> (∀ p ∈ ws, r' p.1 ≠ k) -> W'.heap[k]? = W.heap[k]?
  has : ∀ p ∈ ws ++ ns, W'.heap[r' p.1]? = some (p.2.obj r') /\ p.2.ids D'
  fresh : ∀ p ∈ ns, W.heap.size <= r' p.1
  apart : ∀ p ∈ ns, ∀ q ∈ ns, r' p.1 = r' q.1 -> p.1 = q.1

theorem Turn.of_below {r : Nat -> Nat} {D : Nat -> Prop} {W W' : World} (h : Below W.heap.size W W') : Turn r D W W' [] [] :=
  ⟨h.os, h.tape, h.output, h.size, λk hk _ => h.block k hk, λp hp => by simp at hp, λp hp => by simp at hp, λp hp => by simp at hp⟩

def Fs (P : Program) : Fence := { fn := λf => ∃ fn, P.funcs[f]? = some fn, depth := none, alive := false }
abbrev zef (P : Program) (f : FuncId) (args : Array Value) (W : World) (R : Ending -> World -> Prop) : Prop := CallsIn (Fs P) 0 P f args W R
theorem zef.mono {P : Program} {f : FuncId} {args : Array Value} {W : World} {R R' : Ending -> World -> Prop} (h : zef P f args W R) (hr : ∀ e w, R e w -> R' e w) : zef P f args W R' := CallsIn.mono h hr
theorem ze4 (P : Program) (n : Nat) : (Fs P).room n := λ_ h => by simp [Fs] at h
theorem zef.calls {P : Program} {f : FuncId} {args : Array Value} {W : World} {R : Ending -> World -> Prop} (h : zef P f args W R) : Calls P f args W R := λcs => by
  obtain ⟨e, w', fr, r, s, x⟩ := h.2 cs (ze4 P _)
  refine ⟨e, w', fr, r, ?_, x⟩
  cases e with
  | returned v => exact stepsIn_wide.1 (StepsIn.mono (λm _ => fenced_wide P m) s)
  | panicked ch => exact stepsIn_wide.1 (StepsIn.mono (λm _ => fenced_wide P m) s)
  | outgrown => exact s
theorem zhm {P : Program} {f : FuncId} {args : Array Value} {W W' : World} {x : Next} (h : (callFunc f args).run P W = .ok x W') : ∃ fn, P.funcs[f]? = some fn := by
  unfold callFunc at h
  simp only [Sem.run_bind, run_program, Result.andThen_ok] at h
  cases hf : P.funcs[f]? with
  | none => simp [hf, stuck] at h
  | some fn => exact ⟨fn, rfl⟩

theorem zsh {P : Program} {o : Oper} {ρ : Operand -> Value} {W W' : World} {x : Next} (h : (execOp ρ o).run P W = .ok x W') : ∀ f, o.about P W ρ = some f -> (Fs P).fn f := by
  intro f hf
  unfold Oper.about at hf
  unfold execOp at h
  split at hf
  · rename_i c hc
    simp only [hc, Sem.run_bind] at h
    cases hr : (resolve ρ c o.type).run P W with
    | halt y w => rw [hr] at hf; cases hf
    | ok dd w =>
      rw [hr] at hf h
      simp only [Result.andThen_ok] at h
      have ht := invoke_tie P w dd.target dd.args
      have hf' : dd.target.leads P w dd.args = some f := hf
      split at ht
      all_goals first
        | (rcases ht with ⟨g, args', w', h1, h2⟩ | ⟨y, w', h2⟩
           · rw [hf'] at h1
             cases h1
             rw [h2] at h
             exact zhm h
           · rw [h2] at h
             cases h)
        | (rw [ht] at hf'; cases hf')
  · cases hf

def zlj (P : Program) (o : Oper) (a : Act) (W : World) (R Rp : Value -> World -> Prop) : Prop :=
  match (execOp a.eval o).run P W with
  | .ok (.value u) W' => R u W'
  | .ok .skip W' => R undef W'
  | .ok (.enter f args) W' => zef P f args W' (λe W'' => match e with
      | .returned u => R u W''
      | .panicked ch => ∃ pv, ch = [{ v := pv, recovered := false }] /\ Rp pv W''
      | .outgrown => False)
  | .halt (.panic pv) W' => o.about P W a.eval = none /\ Rp pv W'
  | _ => False

def zqf (o : Oper) (r : Nat -> Nat) (D : Nat -> Prop) (ts : Nat -> Value) (a : Act) : Prop :=
  ∀ t, Operand.tmp t ∈ o.op.operands -> ts t = zbz \/ (a.tmps.getD t undef = ren r (ts t) /\ zap D (ts t))

def OpD (P : Program) (o : Oper) (ts : Nat -> Value) (hp : Hp) (e : Eff) : Prop :=
  ∀ r D a W, zqf o r D ts a -> Sat r D hp W -> Inj r D -> (∀ k, k < 100 -> D k -> r k = k) -> (∀ k, dom hp k -> D k) -> (∀ p ∈ e.ns, ¬ D p.1 /\ 100 <= p.1) ->
    zlj P o a W (λu W' => e.pan = none /\ ∃ r', (∀ k, D k -> r' k = r k) /\ u = ren r' e.v /\ zap (zc7 D e.ns) e.v /\ Turn r' (zc7 D e.ns) W W' e.ws e.ns)
      (λpv W' => e.pan = some pv /\ Below W.heap.size W W')

structure OKP where
  ok : Oper -> (Nat -> Value) -> Nat -> Hp -> Eff -> Prop
  congr : ∀ o ts ts' yc yc' hp e, (∀ t, Operand.tmp t ∈ o.op.operands -> ts t = ts' t) -> (e.yl = true -> yc = yc') -> ok o ts yc hp e -> ok o ts' yc' hp e
  un : Oper -> (Nat -> Value) -> Prop
  uncongr : ∀ o ts ts', (∀ t, Operand.tmp t ∈ o.op.operands -> ts t = ts' t) -> un o ts -> un o ts'

theorem zih (ts : Nat -> Value) {x y : Option Tmp} (u v : Value) (h : ∀ d, x = some d -> y ≠ some d) : zbl (zbl ts x u) y v = zbl (zbl ts y v) x u := by
  cases x with
  | none => rfl
  | some d =>
    cases y with
    | none => rfl
    | some e => exact znv _ _ _ (λhe => h d rfl (by rw [he]))
theorem zmc (ts : Nat -> Value) {x : Option Tmp} {t : Nat} (v : Value) (h : ∀ d, x = some d -> t ≠ d) : zbl ts x v t = ts t := by
  cases x with
  | none => rfl
  | some d => exact zaa _ _ (h d rfl)

structure St where
  ts : Nat -> Value
  hp : Hp
  lg : Nat -> List Nat × List Nat
  yc : Nat
  yd : Bool
  pn : Option Value
  wr : Bool

def St.after (s : St) (i : Nat) (o : Oper) (e : Eff) : St :=
  { ts := zbl s.ts o.dst e.v, hp := zaw s.hp (e.ws ++ e.ns), lg := upd s.lg i (e.rs, zab e.ws ++ zab e.ns), yc := if e.yl then s.yc + 1 else s.yc, yd := s.yd || e.yl, pn := s.pn.or e.pan, wr := s.wr || !e.ws.isEmpty }
def St.pass (s : St) (o : Oper) : St := { s with ts := zbl s.ts o.dst undef }

def zc0 (ops : Array Oper) (o : Oper) (ts : Nat -> Value) : Option Bool :=
  match o.guard with
  | none => some true
  | some (j, w) =>
    match (ops[j]?).bind (·.dst) with
    | some d => match ts d with
      | .bool b => some (b == w)
      | .tuple _ => some false
      | _ => none
    | none => some false

def zty (md : Region.Mode) (ops : Array Oper) : Nat -> Nat -> Nat -> Bool
  | 0, _, _ => false
  | f + 1, i, j => match ops[i]? with
    | some o => o.after.any λe => Region.binds md e && (e.on == j || zty md ops f e.on j)
    | none => false
def zk7 (md : Region.Mode) (ops : Array Oper) (i j : Nat) : Bool := zty md ops 3 i j

structure Fits (md : Region.Mode) (ops : Array Oper) (base i : Nat) (s : St) (e : Eff) : Prop where
  wsrs : ∀ k ∈ zab e.ws, k ∈ e.rs /\ dom s.hp k /\ 100 <= k
  ids : ∀ k ∈ zab e.ns, base + 8 * i <= k /\ k < base + 8 * i + 8 /\ 100 <= k
  nodup : ∀ k ∈ zab e.ns, s.hp k = none
  once : ∀ k b c, (k, b) ∈ e.ws ++ e.ns -> (k, c) ∈ e.ws ++ e.ns -> b = c
  log : ∀ j, zk7 md ops i j = false -> (∀ k ∈ e.rs ++ zab e.ns, k ∉ (s.lg j).2) /\ (∀ k ∈ zab e.ws ++ zab e.ns, k ∉ (s.lg j).1)
  new : s.lg i = ([], [])
  pan : e.pan ≠ none -> s.pn = none
  yl : e.yl = true -> s.yd = false

def gOp (OK : OKP) (md : Region.Mode) (ops : Array Oper) (base i : Nat) (K : St -> Prop) (s : St) : Prop :=
  match ops[i]? with
  | none => K s
  | some o => match zc0 ops o s.ts with
    | some true => ∃ e, OK.ok o s.ts s.yc (rst s.hp e.rs) e /\ Fits md ops base i s e /\ K (s.after i o e)
    | some false => OK.un o s.ts /\ K (s.pass o)
    | none => False

def zmn (OK : OKP) (md : Region.Mode) (ops : Array Oper) (base : Nat) (K : St -> Prop) : Nat -> Array Bool -> St -> Prop
  | 0, listed, s => Region.ready md ops listed = [] /\ K s
  | fuel + 1, listed, s =>
    (Region.ready md ops listed = [] -> K s) /\
    ∀ i ∈ Region.ready md ops listed, gOp OK md ops base i (zmn OK md ops base K fuel (listed.setIfInBounds i true)) s

def zf7 (OK : OKP) (md : Region.Mode) (ops : Array Oper) (base i : Nat) (o : Oper) (e : Option Eff) (s : St) : Prop :=
  match e with
  | some e => zc0 ops o s.ts = some true /\ OK.ok o s.ts s.yc (rst s.hp e.rs) e /\ Fits md ops base i s e
  | none => zc0 ops o s.ts = some false /\ OK.un o s.ts

def St.next (s : St) (i : Nat) (o : Oper) : Option Eff -> St
  | some e => s.after i o e
  | none => s.pass o

theorem zjc {OK : OKP} {md : Region.Mode} {ops : Array Oper} {base i : Nat} {o : Oper} {e : Option Eff} {s : St} {K : St -> Prop} (hi : ops[i]? = some o) (hy : zf7 OK md ops base i o e s) (h : K (s.next i o e)) :
    gOp OK md ops base i K s := by
  unfold gOp; simp only [hi]
  cases e with
  | some e => obtain ⟨h1, h2, h3⟩ := hy; simp only [h1]; exact ⟨e, h2, h3, h⟩
  | none => simp only [zf7] at hy; simp only [hy.1]; exact ⟨hy.2, h⟩

theorem zlu {OK : OKP} {md : Region.Mode} {ops : Array Oper} {base i : Nat} {o : Oper} {s : St} {K : St -> Prop} (hi : ops[i]? = some o) (h : gOp OK md ops base i K s) :
    ∃ e, zf7 OK md ops base i o e s /\ K (s.next i o e) := by
  unfold gOp at h; simp only [hi] at h
  cases hw : zc0 ops o s.ts with
  | none => rw [hw] at h; exact h.elim
  | some b =>
    cases b with
    | true => rw [hw] at h; obtain ⟨e, h1, h2, h3⟩ := h; exact ⟨some e, ⟨hw, h1, h2⟩, h3⟩
    | false => rw [hw] at h; exact ⟨none, ⟨hw, h.1⟩, h.2⟩

theorem zcq {ops : Array Oper} {o : Oper} {ts ts' : Nat -> Value} (h : ∀ t ∈ o.looksAt ops, ts t = ts' t) : zc0 ops o ts = zc0 ops o ts' := by
  unfold zc0
  cases hg : o.guard with
  | none => rfl
  | some g =>
    obtain ⟨j, w⟩ := g
    cases hd : (ops[j]?).bind (·.dst) with
    | none => simp [hd]
    | some d =>
      have : ts d = ts' d := h d (by simp [Oper.looksAt, hg, hd])
      simp [hd, this]

theorem OpD.congr {P : Program} {o : Oper} {ts ts' : Nat -> Value} {hp : Hp} {e : Eff} (h : OpD P o ts hp e) (ht : ∀ t, Operand.tmp t ∈ o.op.operands -> ts t = ts' t) : OpD P o ts' hp e :=
  λr D a W hr => h r D a W (λt ht' => by rw [ht t ht']; exact hr t ht')

theorem zbo {ops : Array Oper} {o : Oper} {t : Tmp} (h : Operand.tmp t ∈ o.op.operands) : t ∈ o.looksAt ops :=
  List.mem_append_left _ (List.mem_filterMap.2 ⟨.tmp t, by simpa using h, rfl⟩)

theorem zr7 {OK : OKP} {md : Region.Mode} {ops : Array Oper} {base i j : Nat} {oi oj : Oper} {ei ej : Option Eff} {s : St} (hne : i ≠ j)
    (hap : oi.apart ops oj = true) (hw : zk7 md ops j i = false) (hw' : zk7 md ops i j = false)
    (hy : zf7 OK md ops base i oi ei s) (h : zf7 OK md ops base j oj ej (s.next i oi ei)) :
    zf7 OK md ops base j oj ej s /\ zf7 OK md ops base i oi ei (s.next j oj ej) /\ (s.next i oi ei).next j oj ej = (s.next j oj ej).next i oi ei := by
  obtain ⟨h1, h2, h3⟩ := Oper.apart_spec hap
  have tsj : ∀ v, ∀ t ∈ oj.looksAt ops, zbl s.ts oi.dst v t = s.ts t := λv t ht => zmc _ _ (λd hd e => h1 d hd (e ▸ ht))
  have tsi : ∀ v, ∀ t ∈ oi.looksAt ops, zbl s.ts oj.dst v t = s.ts t := λv t ht => zmc _ _ (λd hd e => h3 d hd (e ▸ ht))
  cases ei with
  | none =>
    cases ej with
    | none =>
      refine ⟨?_, ?_, ?_⟩
      · simp only [zf7, St.next, St.pass] at h |-; rw [<- h.1]; exact ⟨zcq (λt ht => (tsj _ t ht).symm), OK.uncongr _ _ _ (λt ht => tsj _ t (zbo ht)) h.2⟩
      · simp only [zf7, St.next, St.pass] at hy |-; rw [<- hy.1]; exact ⟨zcq (λt ht => tsi _ t ht), OK.uncongr _ _ _ (λt ht => (tsi _ t (zbo ht)).symm) hy.2⟩
      · simp only [St.next, St.pass]; rw [zih _ _ _ h2]
    | some e =>
      obtain ⟨a1, a2, a3⟩ := h
      refine ⟨⟨?_, ?_, ?_⟩, ?_, ?_⟩
      · rw [<- a1]; exact zcq (λt ht => (tsj _ t ht).symm)
      · exact OK.congr _ _ _ _ _ _ _ (λt ht => tsj _ t (zbo ht)) (λ_ => rfl) a2
      · exact ⟨a3.wsrs, a3.ids, a3.nodup, a3.once, a3.log, a3.new, a3.pan, a3.yl⟩
      · simp only [zf7, St.next, St.after] at hy |-; rw [<- hy.1]; exact ⟨zcq (λt ht => tsi _ t ht), OK.uncongr _ _ _ (λt ht => (tsi _ t (zbo ht)).symm) hy.2⟩
      · simp only [St.next, St.pass, St.after]; rw [zih _ _ _ h2]
  | some e =>
    obtain ⟨b1, b2, b3⟩ := hy
    cases ej with
    | none =>
      refine ⟨?_, ⟨?_, ?_, ?_⟩, ?_⟩
      · simp only [zf7, St.next, St.after] at h |-; rw [<- h.1]; exact ⟨zcq (λt ht => (tsj _ t ht).symm), OK.uncongr _ _ _ (λt ht => tsj _ t (zbo ht)) h.2⟩
      · simp only [St.next, St.pass]; rw [<- b1]; exact zcq (λt ht => tsi _ t ht)
      · simp only [St.next, St.pass]; exact OK.congr _ _ _ _ _ _ _ (λt ht => (tsi _ t (zbo ht)).symm) (λ_ => rfl) b2
      · exact ⟨b3.wsrs, b3.ids, b3.nodup, b3.once, b3.log, b3.new, b3.pan, b3.yl⟩
      · simp only [St.next, St.pass, St.after]; rw [zih _ _ _ h2]
    | some f =>
      obtain ⟨a1, a2, a3⟩ := h
      simp only [St.next, St.after] at a1 a2 a3
      have lgi : (upd s.lg i (e.rs, zab e.ws ++ zab e.ns)) i = (e.rs, zab e.ws ++ zab e.ns) := zbg _ _ _
      have hlog := a3.log i hw
      simp only [lgi] at hlog
      -- what e touches f does not turn, and the other way about
      have k1 : ∀ k ∈ f.rs ++ zab f.ns, k ∉ zab (e.ws ++ e.ns) := λk hk hm => hlog.1 k hk (by simpa [zab] using hm)
      have k2 : ∀ k ∈ zab (f.ws ++ f.ns), k ∉ e.rs := λk hk => hlog.2 k (by simpa [zab] using hk)
      have k3 : ∀ k ∈ zab (e.ws ++ e.ns), k ∉ zab (f.ws ++ f.ns) := λk hk hm => by
        have hm' : k ∈ zab f.ws \/ k ∈ zab f.ns := by simpa [zab] using hm
        rcases hm' with hm' | hm'
        · exact k1 k (List.mem_append_left _ (a3.wsrs k hm').1) hk
        · exact k1 k (List.mem_append_right _ hm') hk
      have big : ∀ k ∈ zab (e.ws ++ e.ns), 100 <= k := λk hk => by
        have : k ∈ zab e.ws \/ k ∈ zab e.ns := by simpa [zab] using hk
        rcases this with h | h
        · exact (b3.wsrs k h).2.2
        · exact (b3.ids k h).2.2
      have big' : ∀ k ∈ zab (f.ws ++ f.ns), 100 <= k := λk hk => by
        have : k ∈ zab f.ws \/ k ∈ zab f.ns := by simpa [zab] using hk
        rcases this with h | h
        · exact (a3.wsrs k h).2.2
        · exact (a3.ids k h).2.2
      have r1 : rst (zaw s.hp (e.ws ++ e.ns)) f.rs = rst s.hp f.rs := zfu λk hk => zbb λhm => by
        rcases hk with hk | hk
        · have := big k hm; omega
        · exact k1 k (List.mem_append_left _ hk) hm
      have r2 : rst (zaw s.hp (f.ws ++ f.ns)) e.rs = rst s.hp e.rs := zfu λk hk => zbb λhm => by
        rcases hk with hk | hk
        · have := big' k hm; omega
        · exact k2 k hm hk
      have lgj : s.lg j = ([], []) := by have := a3.new; dsimp only at this; rwa [zaa _ _ (Ne.symm hne)] at this
      have yls : f.yl = true -> e.yl = false /\ s.yd = false := λhf => by
        have := a3.yl hf; simp only [Bool.or_eq_false_iff] at this; exact ⟨this.2, this.1⟩
      have yls' : e.yl = true -> f.yl = false := λhe => by
        cases hf : f.yl with
        | false => rfl
        | true => rw [(yls hf).1] at he; cases he
      have pns : f.pan ≠ none -> e.pan = none /\ s.pn = none := λhf => by
        have := a3.pan hf; simp only [Option.or_eq_none_iff] at this; exact ⟨this.2, this.1⟩
      have pns' : e.pan ≠ none -> f.pan = none := λhe => by
        cases hf : f.pan with
        | none => rfl
        | some v => exact absurd (pns (by rw [hf]; simp)).1 he
      refine ⟨⟨?_, ?_, ?_⟩, ⟨?_, ?_, ?_⟩, ?_⟩
      · rw [<- a1]; exact zcq (λt ht => (tsj _ t ht).symm)
      · rw [<- r1]; exact OK.congr _ _ _ _ _ _ _ (λt ht => tsj _ t (zbo ht)) (λhf => by rw [(yls hf).1]; simp) a2
      · refine ⟨λk hk => ⟨(a3.wsrs k hk).1, ?_, (a3.wsrs k hk).2.2⟩, a3.ids, λk hk => ?_, a3.once, λq hq => ?_, lgj, λhf => (pns hf).2, λhf => (yls hf).2⟩
        · rcases zj5.1 (a3.wsrs k hk).2.1 with h | h
          · exact h
          · exact absurd h (k1 k (List.mem_append_left _ (a3.wsrs k hk).1))
        · have := a3.nodup k hk
          dsimp only at this
          rwa [zbb (k1 k (List.mem_append_right _ hk))] at this
        · by_cases hqi : q = i
          · subst hqi; rw [b3.new]; simp
          · have := a3.log q hq; dsimp only at this; rwa [zaa _ _ hqi] at this
      · simp only [St.next, St.after]; rw [<- b1]; exact zcq (λt ht => tsi _ t ht)
      · simp only [St.next, St.after]; rw [r2]; exact OK.congr _ _ _ _ _ _ _ (λt ht => (tsi _ t (zbo ht)).symm) (λhe => by rw [yls' he]; simp) b2
      · simp only [St.next, St.after]
        refine ⟨λk hk => ⟨(b3.wsrs k hk).1, zj5.2 (.inl (b3.wsrs k hk).2.1), (b3.wsrs k hk).2.2⟩, b3.ids, λk hk => ?_, b3.once, λq hq => ?_, ?_, λhe => ?_, λhe => ?_⟩
        · show zaw s.hp (f.ws ++ f.ns) k = none
          rw [zbb (λhm => k3 k (by simpa [zab] using Or.inr (by simpa [zab] using hk)) hm)]
          exact b3.nodup k hk
        · by_cases hqj : q = j
          · subst hqj
            simp only [zbg]
            refine ⟨λk hk hm => ?_, λk hk hm => ?_⟩
            · rcases List.mem_append.1 hk with hk | hk
              · exact k2 k (by simpa [zab] using hm) hk
              · exact k3 k (by simp [zab] at hk |-; exact .inr hk) (by simpa [zab] using hm)
            · exact k1 k (List.mem_append_left _ hm) (by simpa [zab] using hk)
          · simp only [zaa _ _ hqj]; exact b3.log q hq
        · show upd s.lg j _ i = _
          rw [zaa _ _ hne]; exact b3.new
        · show s.pn.or f.pan = none
          rw [b3.pan he, pns' he]; rfl
        · show (s.yd || f.yl) = false
          rw [b3.yl he, yls' he]; rfl
      · simp only [St.next, St.after]
        rw [zih _ _ _ h2, z1a k3, znv _ _ _ hne, Bool.or_right_comm, Bool.or_right_comm s.wr]
        have e1 : (s.pn.or e.pan).or f.pan = (s.pn.or f.pan).or e.pan := by
          cases he : e.pan with
          | none => cases hf : f.pan <;> cases s.pn <;> rfl
          | some v => rw [pns' (by rw [he]; simp)]; cases s.pn <;> rfl
        have e2 : (if f.yl = true then (if e.yl = true then s.yc + 1 else s.yc) + 1 else if e.yl = true then s.yc + 1 else s.yc) = (if e.yl = true then (if f.yl = true then s.yc + 1 else s.yc) + 1 else if f.yl = true then s.yc + 1 else s.yc) := by
          cases e.yl <;> cases f.yl <;> rfl
        rw [e1, e2]

def zlf (md : Region.Mode) (ops : Array Oper) (listed : Array Bool) : Prop :=
  ∀ k o, ops[k]? = some o -> listed.getD k false = true -> ∀ e ∈ o.after, Region.binds md e = true -> listed.getD e.on false = true
theorem jfp {listed : Array Bool} {k : Nat} (h0 : listed.getD k true = false) (h1 : listed.getD k false = true) : False := by
  rcases Nat.lt_or_ge k listed.size with h' | h'
  · simp [h'] at h0 h1; rw [h0] at h1; cases h1
  · simp [Array.getElem?_eq_none h'] at h1
theorem zk8 {md : Region.Mode} {ops : Array Oper} {listed : Array Bool} (hcl : zlf md ops listed) {j : Nat} (hj : listed.getD j true = false) : ∀ (f i : Nat), (∀ o, ops[i]? = some o -> ∀ e ∈ o.after, Region.binds md e = true -> listed.getD e.on false = true) -> zty md ops f i j = false
  | 0, _, _ => rfl
  | f + 1, i, h => by
    unfold zty
    cases ho : ops[i]? with
    | none => rfl
    | some o =>
      simp only
      rw [Array.any_eq_false]
      intro k hk
      have hm : o.after[k] ∈ o.after := Array.getElem_mem hk
      cases hb : Region.binds md o.after[k] with
      | false => simp
      | true =>
        have hl := h o ho _ hm hb
        have hne : (o.after[k].on == j) = false := by
          rw [beq_eq_false_iff_ne]
          exact λe => jfp hj (e ▸ hl)
        rw [hne, zk8 hcl hj f _ (λo' ho' e he hb' => hcl _ o' ho' hl e he hb')]
        simp
theorem zlf.set {md : Region.Mode} {ops : Array Oper} {listed : Array Bool} (hcl : zlf md ops listed) {j : Nat} (hj : j ∈ Region.ready md ops listed) : zlf md ops (listed.setIfInBounds j true) := by
  have mono : ∀ {x : Nat}, listed.getD x false = true -> (listed.setIfInBounds j true).getD x false = true := λ{x} hx => by
    by_cases c : j = x
    · subst c
      rcases Nat.lt_or_ge j listed.size with h' | h'
      · simp [h']
      · simp [Array.getElem?_eq_none h'] at hx
    · rw [getD_set_ne false c]; exact hx
  intro k o hk hl e he hb
  by_cases c : j = k
  · subst c
    obtain ⟨_, oj, hoj, hall⟩ := mem_ready.1 hj
    rw [hk] at hoj
    cases hoj
    exact mono (hall e he hb)
  · rw [getD_set_ne false c] at hl
    exact mono (hcl k o hk hl e he hb)
theorem zp3 {OK : OKP} {md : Region.Mode} {ops : Array Oper} {base : Nat} {K : St -> Prop} {i : Nat} {oi : Oper} {ei : Option Eff} (hi : ops[i]? = some oi) :
    ∀ (fuel : Nat) (listed : Array Bool) (s : St), zlf md ops listed ->
      (∀ j oj, ops[j]? = some oj -> j ≠ i -> listed.getD j true = false -> (∀ e ∈ oj.after, Region.binds md e = true -> e.on ≠ i) -> oi.apart ops oj = true) ->
      i ∈ Region.ready md ops listed -> zf7 OK md ops base i oi ei s ->
      zmn OK md ops base K fuel (listed.setIfInBounds i true) (s.next i oi ei) -> zmn OK md ops base K (fuel + 1) listed s := by
  intro fuel
  induction fuel with
  | zero =>
    intro listed s _ _ hr hy H
    refine ⟨λh => (by rw [h] at hr; cases hr), λj hj => ?_⟩
    by_cases hji : j = i
    · subst hji; exact zjc hi hy H
    · have := ready_mono hj hji
      rw [H.1] at this
      cases this
  | succ fuel ih =>
    intro listed s hcl hfree hr hy H
    refine ⟨λh => (by rw [h] at hr; cases hr), λj hj => ?_⟩
    by_cases hji : j = i
    · subst hji; exact zjc hi hy H
    · have h1 := H.2 j (ready_mono hj hji)
      obtain ⟨hjun, oj, hoj, hall⟩ := mem_ready.1 hj
      obtain ⟨hiun, oi', hoi', halli⟩ := mem_ready.1 hr
      rw [hi] at hoi'; cases hoi'
      have hnot : ∀ e ∈ oj.after, Region.binds md e = true -> e.on ≠ i := λe he hb heq => jfp hiun (heq ▸ hall e he hb)
      have hw1 : zk7 md ops j i = false := zk8 hcl hiun 3 j λo ho e he hb => by rw [hoj] at ho; cases ho; exact hall e he hb
      have hw2 : zk7 md ops i j = false := zk8 hcl hjun 3 i λo ho e he hb => by rw [hi] at ho; cases ho; exact halli e he hb
      obtain ⟨ej, hyj, hK⟩ := zlu hoj h1
      obtain ⟨c1, c2, c3⟩ := zr7 (Ne.symm hji) (hfree j oj hoj hji hjun hnot) hw1 hw2 hy hyj
      have hfree' : ∀ k ok, ops[k]? = some ok -> k ≠ i -> (listed.setIfInBounds j true).getD k true = false ->
          (∀ e ∈ ok.after, Region.binds md e = true -> e.on ≠ i) -> oi.apart ops ok = true := λk ok hk hki hun hno => by
        refine hfree k ok hk hki ?_ hno
        by_cases hjk : j = k
        · subst hjk; exact hjun
        · rw [getD_set_ne true hjk] at hun; exact hun
      refine zjc hoj c1 (ih (listed.setIfInBounds j true) _ (hcl.set hj) hfree' (ready_mono hr (Ne.symm hji)) c2 ?_)
      rw [Array.setIfInBounds_comm _ _ hji, <- c3]
      exact hK

def zp4 (OK : OKP) (md : Region.Mode) (ops : Array Oper) (base : Nat) (K : St -> Prop) : Nat -> List Oper -> St -> Prop
  | _, [], s => K s
  | k, o :: rest, s => match zc0 ops o s.ts with
    | some true => ∃ e, OK.ok o s.ts s.yc (rst s.hp e.rs) e /\ Fits md ops base k s e /\ zp4 OK md ops base K (k + 1) rest (s.after k o e)
    | some false => OK.un o s.ts /\ zp4 OK md ops base K (k + 1) rest (s.pass o)
    | none => False

theorem zmo {OK : OKP} {md : Region.Mode} {ops : Array Oper} {base : Nat} {K : St -> Prop} : ∀ (l : List Oper) (k : Nat) (listed : Array Bool) (s : St), zlf md ops listed -> (∀ j, l[j]? = ops[k + j]?) ->
    Region.lexFrom md ops l.length k listed = true -> zp4 OK md ops base K k l s -> zmn OK md ops base K l.length listed s
  | [], _, _, _, _, _, hB, h => ⟨by simpa [Region.lexFrom] using hB, h⟩
  | o :: l, k, listed, s, hcl, hl, hB, h => by
    have h0 : ops[k]? = some o := by simpa using (hl 0).symm
    simp only [List.length_cons, Region.lexFrom, Bool.and_eq_true] at hB
    obtain ⟨⟨hr, hf⟩, hB'⟩ := hB
    have hst : gOp OK md ops base k (zp4 OK md ops base K (k + 1) l) s := by unfold gOp; simp only [h0]; exact h
    obtain ⟨e, hy, hK⟩ := zlu h0 hst
    exact zp3 h0 l.length listed s hcl (Region.free_spec h0 hf) (by simpa using hr) hy
      (zmo l (k + 1) _ _ (hcl.set (by simpa using hr)) (λj => by have := hl (j + 1); simpa [Nat.add_assoc, Nat.add_comm 1 j] using this) hB' hK)


structure Ext where
  X : Nat -> (Nat -> Prop) -> World -> Prop
  ok : ∀ c S W W', X c S W -> (∀ k, S k -> W'.heap[k]? = W.heap[k]?) -> W'.os = W.os -> W'.tape = W.tape -> W'.output = W.output -> W.heap.size <= W'.heap.size -> X c S W'

structure YG where
  l : Nat
  xs : List (Array Value)
  stop : Nat
  pn : Option Value
def YG.still : YG := ⟨0, [], 0, none⟩
def YG.pan (y : YG) (c : Nat) : Option Value := if c = y.stop then y.pn else none

structure Ctx where
  E : Ext
  hp0 : Hp
  r0 : Nat -> Nat
  G : Hp
  Y : Option YG

def GOK (G : Hp) (W : World) : Prop := ∀ k b, G k = some b -> W.heap[k]? = some b.obj0

def zgg (P : Program) (G : Hp) (E : Ext) (y : YG) : Prop :=
  ∀ c x S W, GOK G W -> y.xs[c]? = some x -> c <= y.stop -> E.X c S W -> (∀ k, S k -> k < W.heap.size) ->
    YieldAt (Fs P) 0 P y.l x W λe W' => (match y.pan c with | none => e = .returned (.bool (c != y.stop)) | some pv => e = .panicked [{ v := pv, recovered := false }]) /\ GOK G W' /\ W.heap.size <= W'.heap.size /\ (∀ k, k < W.heap.size -> ¬ S k -> W'.heap[k]? = W.heap[k]?) /\
      ∃ S', E.X (c + 1) S' W' /\ (∀ k, S' k -> k < W'.heap.size) /\ ∀ k, S' k -> k < W.heap.size -> S k

def z3x (D : Nat) : Deferred := { target := .collected D, args := #[] }

structure RI (C : Ctx) (n : Nat) (d : List Deferred) (r : Nat -> Nat) (ts : Nat -> Value) (hp : Hp) (yc : Nat) (a : Act) (W : World) : Prop where
  size : a.tmps.size = n
  rel : Rel r (dom hp) ts a
  sat : Sat r (dom hp) hp W
  inj : Inj r (dom hp)
  ext : ∃ (S : Nat -> Prop) (ms : List Nat), C.E.X yc S W /\ (∀ k, S k -> k < W.heap.size) /\ (∀ i, dom hp i -> 100 <= i -> ¬ S (r i)) /\ (a.defers = ms.map z3x ++ d /\ ms.Nodup) /\ ∀ D ∈ ms, W.heap[D]? = some (.deferred (some [])) /\ ¬ S D /\ C.Y ≠ some .still
  keep : ∀ i, dom C.hp0 i -> dom hp i /\ r i = C.r0 i
  glob : ∀ k, k < 100 -> hp k = C.G k
  low : ∀ k, k < 100 -> dom hp k -> r k = k

section
variable {P : Program} {C : Ctx} {n : Nat} {d : List Deferred} {r : Nat -> Nat} {ts : Nat -> Value} {hp : Hp} {yc : Nat} {a : Act} {W : World}

theorem RI.lt (h : RI C n d r ts hp yc a W) {k : Nat} (hk : dom hp k) : r k < W.heap.size := by
  unfold dom at hk
  cases hb : hp k with
  | none => exact absurd hb hk
  | some b => exact (Array.getElem?_eq_some_iff.1 (h.sat k b hb).1).1

theorem RI.ne_mark (h : RI C n d r ts hp yc a W) {k D : Nat} (hk : dom hp k) (hD : W.heap[D]? = some (.deferred (some []))) : r k ≠ D := λe => by
  unfold dom at hk
  cases hb : hp k with
  | none => exact absurd hb hk
  | some b =>
    have := (h.sat k b hb).1
    rw [e, hD] at this; exact (Blk.obj_def this).elim

theorem RI.elsewhere (h : RI C n d r ts hp yc a W) {W' : World} (os : W'.os = W.os) (tape : W'.tape = W.tape) (output : W'.output = W.output) (size : W.heap.size <= W'.heap.size)
    (hs : ∀ k, k < W.heap.size -> W'.heap[k]? = W.heap[k]?) : RI C n d r ts hp yc a W' :=
  { h with
    sat := λk b hk => by
      have := h.sat k b hk
      exact ⟨(hs _ (h.lt (by unfold dom; rw [hk]; simp))).trans this.1, this.2⟩
    ext := by
      obtain ⟨S, ms, h1, h2, h3, h4, h5⟩ := h.ext
      exact ⟨S, ms, C.E.ok _ _ _ _ h1 (λk hk => hs k (h2 k hk)) os tape output size, λk hk => Nat.lt_of_lt_of_le (h2 k hk) size, h3, h4, λD hD => ⟨by rw [hs D (Array.getElem?_eq_some_iff.1 (h5 D hD).1).1]; exact (h5 D hD).1, (h5 D hD).2⟩⟩ }

theorem RI.drew (h : RI C n d r ts hp yc a W) : RI C n d r ts hp yc a { W with drawn := W.drawn + 1 } :=
  h.elsewhere rfl rfl rfl (Nat.le_refl _) λ_ _ => rfl

theorem RI.below (h : RI C n d r ts hp yc a W) {W' : World} (hb : Below W.heap.size W W') : RI C n d r ts hp yc a W' :=
  h.elsewhere hb.os hb.tape hb.output hb.size hb.block

theorem RI.put (h : RI C n d r ts hp yc a W) {dst : Option Tmp} (hd : ∀ d, dst = some d -> d < n) {v : Value} (hv : zap (dom hp) v) : RI C n d r (zbl ts dst v) hp yc (a.put dst (ren r v)) W :=
  { h with
    size := by cases dst <;> simp [Act.put, h.size]
    ext := by cases dst <;> exact h.ext
    rel := h.rel.put (λe he => by rw [h.size]; exact hd e he) hv }

theorem RI.put_undef (h : RI C n d r ts hp yc a W) {dst : Option Tmp} (hd : ∀ d, dst = some d -> d < n) : RI C n d r (zbl ts dst undef) hp yc (a.put dst undef) W := by
  have := h.put hd (zdb (dom hp))
  rwa [zcp] at this

theorem z29 {hp : Hp} {ws ns : List (Nat × Blk)} (hws : ∀ k ∈ zab ws, dom hp k) (k : Nat) : dom (zaw hp (ws ++ ns)) k ↔ zc7 (dom hp) ns k := by
  rw [zj5]
  unfold zc7
  constructor
  · rintro (h | h)
    · exact .inl h
    · have : k ∈ zab ws \/ k ∈ zab ns := by simpa [zab] using h
      exact this.elim (λh => .inl (hws k h)) .inr
  · rintro (h | h)
    · exact .inl h
    · exact .inr (by simp [zab] at h |-; exact .inr h)

theorem RI.after (h : RI C n d r ts hp yc a W) {dst : Option Tmp} (hd : ∀ d, dst = some d -> d < n) {e : Eff} {r' : Nat -> Nat} {W' : World} (hr : ∀ k, dom hp k -> r' k = r k)
    (hv : zap (zc7 (dom hp) e.ns) e.v) (ht : Turn r' (zc7 (dom hp) e.ns) W W' e.ws e.ns) (hws : ∀ k ∈ zab e.ws, dom hp k /\ 100 <= k) (hns : ∀ k ∈ zab e.ns, hp k = none /\ 100 <= k) :
    RI C n d r' (zbl ts dst e.v) (zaw hp (e.ws ++ e.ns)) yc (a.put dst (ren r' e.v)) W' := by
  have hD : dom (zaw hp (e.ws ++ e.ns)) = zc7 (dom hp) e.ns := funext λk => propext (z29 (λk hk => (hws k hk).1) k)
  have old : ∀ k, zc7 (dom hp) e.ns k -> dom hp k \/ k ∈ zab e.ns := λk hk => hk
  have ltW : ∀ k, dom hp k -> r' k < W.heap.size := λk hk => by rw [hr k hk]; exact h.lt hk
  have fr : ∀ k, k ∈ zab e.ns -> W.heap.size <= r' k := λk hk => by
    obtain ⟨p, hp', rfl⟩ := zah.1 hk; exact ht.fresh p hp'
  have big : ∀ k ∈ zab (e.ws ++ e.ns), 100 <= k := λk hk => by
    have : k ∈ zab e.ws \/ k ∈ zab e.ns := by simpa [zab] using hk
    exact this.elim (λh => (hws k h).2) (λh => (hns k h).2)
  have inj' : Inj r' (zc7 (dom hp) e.ns) := λk l hk hl hkl => by
    rcases old k hk with hk | hk <;> rcases old l hl with hl | hl
    · exact h.inj k l hk hl (by rw [<- hr k hk, <- hr l hl]; exact hkl)
    · have h1 := ltW k hk; have h2 := fr l hl; omega
    · have h1 := ltW l hl; have h2 := fr k hk; omega
    · obtain ⟨p, hp1, rfl⟩ := zah.1 hk
      obtain ⟨q, hq1, rfl⟩ := zah.1 hl
      exact ht.apart p hp1 q hq1 hkl
  have base : RI C n d r' ts (zaw hp (e.ws ++ e.ns)) yc a W' :=
    { size := h.size
      rel := by rw [hD]; exact h.rel.mono (λk hk => .inl hk) hr
      sat := λk b hk => by
        rw [hD]
        rcases ztx hk with ⟨h1, h2⟩ | h1
        · have hk' : dom hp k := by unfold dom; rw [h1]; simp
          have hs := h.sat k b h1
          refine ⟨?_, Blk.ids_mono (λ_ hk => .inl hk) hs.2⟩
          rw [ht.same (r' k) (ltW k hk') (λp hp1 e1 => ?_), hr k hk', hs.1, Blk.obj_congr hr hs.2]
          have hp2 : p.1 ∈ zab e.ws := zah.2 ⟨p, hp1, rfl⟩
          have : p.1 = k := inj' _ _ (.inl (hws _ hp2).1) (.inl hk') e1
          exact h2 (by rw [<- this]; simp [zab] at hp2 |-; exact .inl hp2)
        · exact ht.has _ h1
      inj := by rw [hD]; exact inj'
      ext := by
        obtain ⟨S, ms, h1, h2, h3, h4, h5⟩ := h.ext
        refine ⟨S, ms, C.E.ok _ _ _ _ h1 (λk hk => ht.same k (h2 k hk) λp hp1 e1 => ?_) ht.os ht.tape ht.output ht.size, λk hk => Nat.lt_of_lt_of_le (h2 k hk) ht.size, λi hi h1i hS => ?_, h4, λD hD => ⟨?_, (h5 D hD).2⟩⟩
        · have hp2 := (hws _ (zah.2 ⟨p, hp1, rfl⟩)).1
          rw [hr _ hp2] at e1
          exact h3 _ hp2 (hws _ (zah.2 ⟨p, hp1, rfl⟩)).2 (e1 ▸ hk)
        · rw [hD] at hi
          rcases old i hi with hi | hi
          · rw [hr i hi] at hS; exact h3 i hi h1i hS
          · have h6 := h2 _ hS; have h7 := fr i hi; omega
        · rw [ht.same D (Array.getElem?_eq_some_iff.1 (h5 D hD).1).1 (λp hp1 e1 => ?_)]
          · exact (h5 D hD).1
          · have hp2 := (hws _ (zah.2 ⟨p, hp1, rfl⟩)).1
            rw [hr _ hp2] at e1
            exact h.ne_mark hp2 (h5 D hD).1 e1
      keep := λi hi => ⟨by rw [hD]; exact .inl (h.keep i hi).1, by rw [hr i (h.keep i hi).1]; exact (h.keep i hi).2⟩
      glob := λk hk => by rw [zbb (λhm => by have := big k hm; omega)]; exact h.glob k hk
      low := λk hk hd => by
        rw [hD] at hd
        rcases old k hd with hd | hd
        · rw [hr k hd]; exact h.low k hk hd
        · have := (hns k hd).2; omega }
  exact base.put hd (by rw [hD]; exact hv)

abbrev Fw (P : Program) (ro : Option Nat) : Fence := { Fs P with round := ro }

theorem zev {ro : Option Nat} {m : Nat} {o : Oper} {R Rp : Value -> World -> Prop} {next : Act -> World -> Prop} {Q : Exit -> Act -> World -> Prop} (hnd : ∀ c, o.op ≠ .defer c) (h : zlj P o a W R Rp) (hn : ∀ u W', R u W' -> next (a.put o.dst u) W')
    (hp : ∀ pv W', Rp pv W' -> Q (.panic [{ v := pv, recovered := false }]) a W') : o.wpIn (Fw P ro) m P a W next Q := by
  refine ⟨?_, ?_⟩
  · unfold zlj at h
    generalize hx : (execOp a.eval o).run P W = x at h
    cases x with
    | ok nx W' => exact zsh hx
    | halt x W' =>
      cases x <;> first | exact h.elim | (intro f hf; rw [h.1] at hf; cases hf)
  have e : (Fw P ro).round = ro := rfl
  rw [e, Oper.semAt_eq ro a.eval o hnd]
  unfold zlj at h
  generalize (execOp a.eval o).run P W = x at h
  cases x with
  | ok nx W' =>
    cases nx <;> simp only [Oper.uponIn] at h |- <;> first
      | exact hn _ _ h
      | (exact h.elim)
      | (refine ⟨λh => (by cases h), ?_⟩
         refine CallsIn.mono (⟨h.1, λcs _ => h.2 cs (ze4 P _)⟩ : CallsIn (Fw P ro) (m - 1) P _ _ _ _) ?_
         intro e w'' hr
         cases e with
         | returned u => exact hn _ _ hr
         | panicked ch => obtain ⟨pv, rfl, hr⟩ := hr; exact hp _ _ hr
         | outgrown => exact hr.elim)
  | halt x W' => cases x <;> first | exact h.elim | exact hp _ _ h.2

theorem zg6 {ops : Array Oper} {o : Oper} {b : Bool} (h : Rel r (dom hp) ts a) (hj : zc0 ops o ts = some b) : Region.wanted o (yielded ops a.tmps) = b := by
  unfold Region.wanted
  unfold zc0 at hj
  cases hg : o.guard with
  | none => simpa [hg] using hj
  | some g =>
    obtain ⟨j, w⟩ := g
    simp only [hg] at hj |-
    unfold yielded
    cases hd : (ops[j]?).bind (·.dst) with
    | none => simpa [hd] using hj
    | some t =>
      simp only [hd] at hj
      simp only [Option.bind_some]
      have ht := h t
      cases hv : ts t with
      | bool c =>
        simp only [hv, Option.some.injEq] at hj
        obtain ⟨h1, _⟩ := ht.resolve_left (by rw [hv]; simp [zbz])
        rw [hv] at h1
        simp only [ren, zas, zan, zao] at h1
        cases hq : a.tmps[t]? with
        | none => simp [hq, undef] at h1
        | some u => simp [hq] at h1; subst h1; simpa using hj
      | tuple vs =>
        simp only [hv, Option.some.injEq] at hj
        obtain ⟨h1, _⟩ := ht.resolve_left (by rw [hv]; simp [zbz])
        rw [hv] at h1
        simp only [ren] at h1
        cases hq : a.tmps[t]? with
        | none => simpa using hj
        | some u => simp [hq] at h1; subst h1; simpa using hj
      | _ => simp [hv] at hj

def zhd (n : Nat) (ops : List Oper) : Bool := ops.all λo => (match o.dst with | some d => decide (d < n) | none => true) && (match o.op with | .defer _ => false | _ => true)
theorem zfm {n : Nat} {ops : List Oper} (h : zhd n ops = true) {o : Oper} (ho : o ∈ ops) : (∀ d, o.dst = some d -> d < n) /\ ∀ c, o.op ≠ .defer c := by
  have := List.all_eq_true.1 h o ho
  simp only [Bool.and_eq_true] at this
  refine ⟨λd hd => ?_, λc hc => ?_⟩
  · have h1 := this.1; simpa [hd] using h1
  · have h2 := this.2; simp [hc] at h2

theorem z42 {ro : Option Nat} {m : Nat} {o : Oper} {e : Eff} {next : Act -> World -> Prop} {Q : Exit -> Act -> World -> Prop} (h : RI C n d r ts hp yc a W) (hd : (∀ d, o.dst = some d -> d < n) /\ ∀ c, o.op ≠ .defer c)
    (ho : OpD P o ts (rst hp e.rs) e) (hws : ∀ k ∈ zab e.ws, dom hp k /\ 100 <= k) (hns : ∀ k ∈ zab e.ns, hp k = none /\ 100 <= k)
    (hn : ∀ r' a' W', e.pan = none -> RI C n d r' (zbl ts o.dst e.v) (zaw hp (e.ws ++ e.ns)) yc a' W' -> next a' W')
    (hp' : ∀ pv W', e.pan = some pv -> RI C n d r ts hp yc a W' -> Q (.panic [{ v := pv, recovered := false }]) a W') : o.wpIn (Fw P ro) m P a W next Q := by
  refine zev hd.2 (ho r (dom hp) a W (λt _ => h.rel t) (λk b hk => h.sat k b (zer hk)) h.inj h.low (λk hk => ?_) (λp hp1 => ?_)) ?_ ?_
  · unfold dom at hk |-
    cases hb : rst hp e.rs k with
    | none => exact absurd hb hk
    | some b => rw [zer hb]; simp
  · have := hns _ (zah.2 ⟨p, hp1, rfl⟩)
    exact ⟨by unfold dom; simp [this.1], this.2⟩
  · rintro u W' ⟨hpn, r', hr, rfl, hv, ht⟩
    exact hn r' _ _ hpn (h.after hd.1 hr hv ht hws hns)
  · rintro pv W' ⟨hpn, hb⟩
    exact hp' pv W' hpn (h.below hb)

def z76 (P : Program) (C : Ctx) (n : Nat) (d : List Deferred) (ro : Option Nat) (OK : OKP) : Prop :=
  ∀ (o : Oper) (e : Eff) (ts : Nat -> Value) (hp : Hp) (yc : Nat) (r : Nat -> Nat) (a : Act) (W : World) (m : Nat) (next : Act -> World -> Prop) (Q : Exit -> Act -> World -> Prop),
    RI C n d r ts hp yc a W -> ((∀ d, o.dst = some d -> d < n) /\ ∀ c, o.op ≠ .defer c) -> OK.ok o ts yc (rst hp e.rs) e -> (∀ k ∈ zab e.ws, dom hp k /\ 100 <= k) -> (∀ k ∈ zab e.ns, hp k = none /\ 100 <= k) ->
    (∀ r' a' W', e.pan = none -> RI C n d r' (zbl ts o.dst e.v) (zaw hp (e.ws ++ e.ns)) (if e.yl then yc + 1 else yc) a' W' -> next a' W') ->
    (∀ pv W' yc', e.pan = some pv -> RI C n d r ts hp yc' a W' -> Q (.panic [{ v := pv, recovered := false }]) a W') -> o.wpIn (Fw P ro) m P a W next Q

def zwx (P : Program) (OK : OKP) : Prop :=
  ∀ (o : Oper) (ts : Nat -> Value) (r : Nat -> Nat) (D : Nat -> Prop) (a : Act) (W : World), Rel r D ts a -> OK.un o ts -> ∀ f, o.about P W a.eval = some f -> (Fs P).fn f

theorem zg7 {OK : OKP} {md : Region.Mode} {ops : Array Oper} {base : Nat} {K : St -> Prop} : ∀ (fuel : Nat) (listed : Array Bool) (s : St), zmn OK md ops base K fuel listed s -> ∃ s', K s' /\ (∀ v, s.pn = some v -> s'.pn = some v) /\ (s'.wr = false -> s.wr = false)
  | 0, _, s, h => ⟨s, h.2, λ_ h => h, id⟩
  | fuel + 1, listed, s, h => by
    cases hr : Region.ready md ops listed with
    | nil => exact ⟨s, h.1 hr, λ_ h => h, id⟩
    | cons i l =>
      have h1 := h.2 i (by rw [hr]; simp)
      unfold gOp at h1
      cases ho : ops[i]? with
      | none => simp only [ho] at h1; exact zg7 fuel _ s h1
      | some o =>
        simp only [ho] at h1
        cases hw : zc0 ops o s.ts with
        | none => rw [hw] at h1; exact h1.elim
        | some b =>
          rw [hw] at h1
          cases b with
          | true =>
            obtain ⟨e, _, _, h4⟩ := h1
            obtain ⟨s', k, h5, h6⟩ := zg7 fuel _ _ h4
            refine ⟨s', k, λv hv => h5 v (by simp [St.after, hv]), λhs => ?_⟩
            have := h6 hs; simp only [St.after, Bool.or_eq_false_iff] at this; exact this.1
          | false =>
            obtain ⟨s', k, h5, h6⟩ := zg7 fuel _ _ h1.2
            exact ⟨s', k, h5, h6⟩

theorem zel {ts : Nat -> Value} {dst : Option Tmp} {v : Value} {t : Nat} (h : dst ≠ some t) : zbl ts dst v t = ts t := by
  cases dst with
  | none => rfl
  | some d => exact zaa _ _ (λe => h (by rw [e]))
theorem zg8 {OK : OKP} {ro : Option Nat} {m : Nat} {md : Region.Mode} {ops : Array Oper} {base : Nat} {K : St -> Prop} {Q : Exit -> Act -> World -> Prop} {hp0 : Hp} {ts0 : Nat -> Value} (hst : z76 P C n d ro OK) (hun : zwx P OK) (hdst : ∀ o ∈ ops, (∀ d, o.dst = some d -> d < n) /\ ∀ c, o.op ≠ .defer c)
    (hK : ∀ s, K s -> s.pn = none -> ∀ r' a' W', RI C n d r' s.ts s.hp s.yc a' W' -> Q .normal a' W')
    (hP : ∀ s' pv, K s' -> s'.pn = some pv -> s'.wr = false -> ∀ r a W ts hp yc, (∀ k b, hp0 k = some b -> hp k = some b) -> (∀ t, (∀ o ∈ ops, o.dst ≠ some t) -> ts t = ts0 t) -> RI C n d r ts hp yc a W -> Q (.panic [{ v := pv, recovered := false }]) a W) (hwr : ∀ s', K s' -> s'.pn ≠ none -> s'.wr = false) :
    ∀ (fuel : Nat) (listed : Array Bool) (s : St) (r : Nat -> Nat) (a : Act) (W : World), RI C n d r s.ts s.hp s.yc a W -> s.pn = none -> (s.wr = false -> ∀ k b, hp0 k = some b -> s.hp k = some b) -> (∀ t, (∀ o ∈ ops, o.dst ≠ some t) -> s.ts t = ts0 t) -> zmn OK md ops base K fuel listed s -> wpAnyIn (Fw P ro) m P md ops Q fuel listed a W
  | 0, _, s, r, a, W, hR, hpn, hs, hts, h => ⟨h.1, hK s h.2 hpn r a W hR⟩
  | fuel + 1, listed, s, r, a, W, hR, hpn, hs, hts, h => by
    refine ⟨λh0 => hK s (h.1 h0) hpn r a W hR, λi hi => ?_⟩
    have h1 := h.2 i hi
    unfold wpOpIn
    unfold gOp at h1
    cases ho : ops[i]? with
    | none => simp only [ho] at h1; exact zg8 hst hun hdst hK hP hwr fuel _ s r a W hR hpn hs hts h1
    | some o =>
      simp only [ho] at h1
      have hd := hdst o (Array.mem_of_getElem? ho)
      cases hw : zc0 ops o s.ts with
      | none => rw [hw] at h1; exact h1.elim
      | some b =>
        rw [hw] at h1
        simp only [zg6 hR.rel hw]
        cases b with
        | true =>
          obtain ⟨e, h2, h3, h4⟩ := h1
          simp only [if_true]
          have hs' : (s.after i o e).wr = false -> ∀ k b, hp0 k = some b -> (s.after i o e).hp k = some b := λhw' k b hk => by
            simp only [St.after, Bool.or_eq_false_iff] at hw'
            have e0 : e.ws = [] := by have := hw'.2; simpa using this
            have hk' := hs hw'.1 k b hk
            show zaw s.hp (e.ws ++ e.ns) k = some b
            rw [e0, List.nil_append, zbb (λhm => by have := h3.nodup k hm; rw [hk'] at this; cases this)]
            exact hk'
          refine hst o e s.ts s.hp s.yc r a W m _ _ hR hd h2 (λk hk => (h3.wsrs k hk).2) (λk hk => ⟨h3.nodup k hk, (h3.ids k hk).2.2⟩) ?_ ?_
          · intro r' a' W' hpe hR'
            exact zg8 hst hun hdst hK hP hwr fuel _ (s.after i o e) r' a' W' hR' (by simp [St.after, hpn, hpe]) hs' (λt ht => (zel (ht o (Array.mem_of_getElem? ho))).trans (hts t ht)) h4
          · intro pv W' yc' hpe hR'
            obtain ⟨s', k, h5, h6⟩ := zg7 fuel _ _ h4
            have hp5 := h5 pv (by simp [St.after, hpn, hpe])
            have hw5 := hwr s' k (by rw [hp5]; simp)
            have hw6 := h6 hw5
            simp only [St.after, Bool.or_eq_false_iff] at hw6
            exact hP s' pv k hp5 hw5 r a W' s.ts s.hp yc' (hs hw6.1) hts hR'
        | false =>
          simp only [Bool.false_eq_true, if_false]
          exact ⟨hun o s.ts r _ a W hR.rel h1.1, zg8 hst hun hdst hK hP hwr fuel _ (s.pass o) r _ W (hR.put_undef hd.1) hpn hs (λt ht => (zel (ht o (Array.mem_of_getElem? ho))).trans (hts t ht)) h1.2⟩

theorem zrt {OK : OKP} {ro : Option Nat} {m : Nat} {id : Nat} {l : List Oper} {base : Nat} {K : St -> Prop} {Q : Exit -> Act -> World -> Prop} (hst : z76 P C n d ro OK) (hun : zwx P OK) (hm : P.follows .mixedOrders = true)
    (hB : Region.lexFrom .any l.toArray l.length 0 (Array.replicate l.length false) = true) (hdst : zhd n l = true) (h : RI C n d r ts hp yc a W)
    (hw : zp4 OK .any l.toArray base K 0 l ⟨ts, hp, λ_ => ([], []), yc, false, none, false⟩) (hK : ∀ s, K s -> s.pn = none -> ∀ r' a' W', RI C n d r' s.ts s.hp s.yc a' W' -> Q .normal a' W')
    (hP : ∀ s' pv, K s' -> s'.pn = some pv -> s'.wr = false -> ∀ r a W ts' hp' yc, (∀ k b, hp k = some b -> hp' k = some b) -> (∀ t, (∀ o ∈ l, o.dst ≠ some t) -> ts' t = ts t) -> RI C n d r ts' hp' yc a W -> Q (.panic [{ v := pv, recovered := false }]) a W) (hwr : ∀ s', K s' -> s'.pn ≠ none -> s'.wr = false) : (Code.region id l.toArray true).wpIn (Fw P ro) m P Q a W := by
  refine wpIn_region_any hm ?_
  have := zmo (md := .any) (ops := l.toArray) l 0 (Array.replicate l.length false) ⟨ts, hp, λ_ => ([], []), yc, false, none, false⟩ (λk o _ hl => by rw [Array.getD_eq_getD_getElem?, Array.getElem?_replicate] at hl; split at hl <;> simp at hl) (by simp) hB hw
  have h2 := zg8 (C := C) (n := n) (d := d) (Q := Q) (m := m) (hp0 := hp) hst hun (λo ho => zfm hdst (by simpa using ho)) hK (λs' pv h1 h2 h3 r a W ts' hp' yc h4 h5 h6 => hP s' pv h1 h2 h3 r a W ts' hp' yc h4 (λt ht => h5 t (λo ho => ht o (by simpa using ho))) h6) hwr _ _ _ r a _ h.drew rfl (λ_ _ _ h => h) (λ_ _ => rfl) this
  simpa using h2

end

def zho:Value->Bool
 | .pointer (some _)=>false
 | .slice (some _) _ _=>false
 | .map (some _)=>false
 | _=>true
def zbj:Value->Bool
 | .func _ first cap=>first.all zho&&cap.all zho
 | .iface _ v=>zho v
 | v=>zho v
def zhe:Value->Bool
 | .agg cs=>cs.all zbj
 | v=>zbj v
def za0:Value->Bool
 | .tuple vs=>vs.all zhe
 | v=>zhe v

section
variable {r:Nat->Nat} {D:Nat->Prop}
theorem zbn {f:Value->Value} {xs:Array Value} (h:∀ x∈xs,f x=x):xs.map f=xs:=by
 have:xs.map f=xs.map id:=Array.map_congr_left λx hx=>by simpa using h x hx
 rw [this];simp
theorem zh2 {v:Value} (h:zho v=true):zao r v=v:=by unfold zho at h;split at h<;>simp_all [zao]
theorem zh1 {v:Value} (h:zho v=true):zal D v:=by unfold zho at h;split at h<;>simp_all [zal]
theorem zcc {v:Value} (h:zbj v=true):zan r v=v:=by
 unfold zbj at h
 split at h
 ·simp only [Bool.and_eq_true] at h
  simp only [zan]
  rw [zbn (λx hx=>zh2 (Array.all_eq_true_iff_forall_mem.1 h.1 x hx)),zbn (λx hx=>zh2 (Array.all_eq_true_iff_forall_mem.1 h.2 x hx))]
 ·simp only [zan];rw [zh2 h]
 ·rename_i h1 h2
  unfold zan
  split
  ·exact absurd rfl (h1 _ _ _)
  ·exact absurd rfl (h2 _ _)
  ·exact zh2 h
theorem zdw {v:Value} (h:zbj v=true):zaj D v:=by
 unfold zbj at h
 split at h
 ·simp only [Bool.and_eq_true] at h
  exact ⟨λx hx=>zh1 (Array.all_eq_true_iff_forall_mem.1 h.1 x hx),λx hx=>zh1 (Array.all_eq_true_iff_forall_mem.1 h.2 x hx)⟩
 ·exact zh1 (v:=_) h
 ·rename_i h1 h2
  unfold zaj
  split
  ·exact absurd rfl (h1 _ _ _)
  ·exact absurd rfl (h2 _ _)
  ·exact zh1 h
theorem Blk.obj_flat {r:Nat->Nat} {b:Blk} (h:∀ x∈b.c,zbj x=true):b.obj r=b.obj0:=by
 obtain ⟨c,T⟩:=b
 cases T with
 | ty t=>unfold Blk.obj Blk.obj0;simp only;rw [zbn (λx hx=>zcc (h x hx))]
 | raw t fr=>rfl
 | mp=>unfold Blk.obj Blk.obj0;simp only;rw [zbn (λx hx=>zcc (h x hx))]
theorem Blk.flat_ids {b:Blk} (h:∀ x∈b.c,zbj x=true):b.ids D:=Blk.ids_of λx hx=>zdw (h x hx)
theorem zot {v:Value} (h:zhe v=true):zas r v=v:=by
 unfold zhe at h
 split at h
 ·simp only [zas];rw [zbn (λx hx=>zcc (Array.all_eq_true_iff_forall_mem.1 h x hx))]
 ·rename_i h1
  unfold zas
  split
  ·exact absurd rfl (h1 _)
  ·exact zcc h
theorem zos {v:Value} (h:zhe v=true):zau D v:=by
 unfold zhe at h
 split at h
 ·exact λx hx=>zdw (Array.all_eq_true_iff_forall_mem.1 h x hx)
 ·rename_i h1
  unfold zau
  split
  ·exact absurd rfl (h1 _)
  ·exact zdw h
theorem zax {v:Value} (h:za0 v=true):ren r v=v:=by
 unfold za0 at h
 split at h
 ·simp only [ren];rw [zbn (λx hx=>zot (Array.all_eq_true_iff_forall_mem.1 h x hx))]
 ·rename_i h1
  unfold ren
  split
  ·exact absurd rfl (h1 _)
  ·exact zot h
theorem zak {v:Value} (h:za0 v=true):zap D v:=by
 unfold za0 at h
 split at h
 ·exact λx hx=>zos (Array.all_eq_true_iff_forall_mem.1 h x hx)
 ·rename_i h1
  unfold zap
  split
  ·exact absurd rfl (h1 _)
  ·exact zos h
end

def zla:Value->Bool
 | .agg _=>false
 | .tuple _=>false
 | _=>true
theorem ztn {r:Nat->Nat} {v:Value} (h:zla v=true):ren r v=zan r v:=by cases v<;>simp_all [zla,ren,zas]
theorem z3g {D:Nat->Prop} {v:Value} (h:zla v=true):zap D v↔zaj D v:=by cases v<;>simp_all [zla,zap,zau]
theorem z0b {r:Nat->Nat} {v:Value} (h:zla v=true):zla (zan r v)=true:=by
 cases v with
 | pointer p=>cases p<;>rfl
 | slice p _ _=>cases p<;>rfl
 | map p=>cases p<;>rfl
 | agg _=>simp [zla] at h
 | tuple _=>simp [zla] at h
 | _=>rfl

def gev (ts:Nat->Value):Operand->Value
 | .tmp t=>ts t
 | .const v=>v
 | .global g=>.pointer (some ⟨g,0,none⟩)
 | .func f=>.func (.func f) #[] #[]
def nj:Value->Prop
 | .complex _ _ _=>False
 | _=>True
theorem jfz {v:Value} (h:nj v):v≠zbz:=by intro e;rw [e] at h;exact h
def okX (ts:Nat->Value) (hp:Hp):Operand->Prop
 | .tmp t=>nj (ts t)
 | .const v=>za0 v=true
 | .global g=>g<100/\(hp g).isSome=true
 | .func _=>True

section
variable {P:Program} {o:Oper} {r:Nat->Nat} {D:Nat->Prop} {ts:Nat->Value} {a:Act} {hp:Hp}
theorem ev {x:Operand} (h:zqf o r D ts a) (hx:x∈o.op.operands) (hk:okX ts hp x) (hlow:∀ k,k<100->D k->r k=k) (hD:∀ k,k<100->dom hp k->D k) :
  a.eval x=ren r (gev ts x)/\zap D (gev ts x):=by
 cases x with
 | tmp t=>exact (h t hx).resolve_left (jfz hk)
 | const v=>exact ⟨(zax hk).symm,zak hk⟩
 | global g =>
  obtain ⟨h1,h2⟩:=hk
  have hd:D g:=hD g h1 (by unfold dom;intro e;rw [e] at h2;simp at h2)
  exact ⟨by simp [Act.eval,gev,ren,zas,zan,zao,hlow g h1 hd],by simpa [gev,zap,zau,zaj,zal] using hd⟩
 | func f=>exact ⟨by simp [Act.eval,gev,ren,zas,zan],by simp [gev,zap,zau,zaj]⟩

def zhg (P:Program) (T:TypeId):Option Bool :=
 match P.underlying T with
 | some (.struct _)=>some true
 | some (.array _ _)=>some true
 | some _=>some false
 | none=>none
def zaz (P:Program) (T:TypeId):Option Nat:=(P.info? T).map (·.size)
def zbq (P:Program) (T:TypeId):Option Value:=(P.info? T).bind (·.zero)

theorem zfv {T:TypeId} {b:Bool} (h:zhg P T=some b) (W:World):(isAgg T).run P W=.ok b W:=by
 unfold zhg at h
 unfold isAgg
 cases hu:P.underlying T with
 | none=>simp [hu] at h
 | some dd =>
  rw [Sem.run_bind,run_underlying hu W]
  cases dd<;>simp_all
theorem zb1 {T:TypeId} {m:Nat} (h:zaz P T=some m) (W:World):(sizeOf T).run P W=.ok m W:=by
 unfold zaz at h
 cases hi:P.info? T with
 | none=>simp [hi] at h
 | some i=>simp [hi] at h;simp [sizeOf,typeInfo,hi,h]
theorem zf4 {T:TypeId} {z:Value} (h:zbq P T=some z) (W:World):(zeroValue T).run P W=.ok z W:=by
 unfold zbq at h
 cases hi:P.info? T with
 | none=>simp [hi] at h
 | some i=>simp [hi] at h;simp [zeroValue,typeInfo,hi,h]

def zc3 (P:Program) (T:TypeId) (c:Array Value) (off:Nat):Option Value :=
 match zhg P T with
 | some true=>match zaz P T with
  | some m=>if off+m<=c.size then some (.agg (c.extract off (off+m))) else none
  | none=>none
 | some false=>match c[off]? with
  | some v=>if zla v then some v else none
  | none=>none
 | none=>none

theorem zgy {T:TypeId} {c:Array Value} {off:Nat} {v:Value} (h:zc3 P T c off=some v) {W:World} {b:Nat} {T':TypeId} {fr:Nat×Nat} (hb:W.heap[b]? = some (.cells (c.map (zan r)) T' fr)) :
  (loadVar T ⟨b,off,none⟩).run P W=.ok (ren r v) W:=by
 unfold zc3 at h
 cases ha:zhg P T with
 | none=>simp [ha] at h
 | some bb =>
  cases bb with
  | true =>
   simp only [ha] at h
   cases hs:zaz P T with
   | none=>simp [hs] at h
   | some m =>
    simp only [hs] at h
    split at h
    ·rename_i hle
     cases h
     have hl:(loadCells ⟨b,off,none⟩ m).run P W=.ok ((c.extract off (off+m)).map (zan r)) W:=by
      have:=run_loadCells_list (P:=P) W ⟨b,off,none⟩ ((c.extract off (off+m)).map (zan r)).toList (λj v hv=>by
       rw [Addr.add_mid,cell_of_row W b (off+j) _ _ _ hb]
       simp only [Array.getElem?_toList,Array.getElem?_map,Array.getElem?_extract] at hv
       rw [Array.getElem?_map]
       split at hv
       ·exact hv
       ·simp at hv)
      have hlen:((c.extract off (off+m)).map (zan r)).toList.length=m:=by simp;omega
      rw [hlen] at this
      rw [this,Array.toArray_toList]
     simp [loadVar,Sem.run_bind,zfv ha,zb1 hs,hl,ren,zas]
    ·simp at h
  | false =>
   simp only [ha] at h
   cases hc:c[off]? with
   | none=>simp [hc] at h
   | some u =>
    simp only [hc] at h
    split at h
    ·rename_i hsc
     obtain rfl:u=v:=by simpa using h
     have hcell:W.cell? ⟨b,off,none⟩=some (zan r u):=by rw [cell_of_row W b off _ _ _ hb];simp [hc]
     simp [loadVar,Sem.run_bind,zfv ha,load,Sem.run,hcell,ztn hsc]
    ·simp at h

theorem zkp {T:TypeId} {c:Array Value} {off:Nat} {v:Value} (h:zc3 P T c off=some v) (hc:∀ x∈c,zaj D x):zap D v:=by
 unfold zc3 at h
 split at h
 ·split at h
  ·split at h
   ·cases h
    intro x hx
    have:=Array.mem_extract_iff_getElem.1 hx
    obtain ⟨k,hk,e⟩:=this
    exact e▸hc _ (Array.getElem_mem _)
   ·simp at h
  ·simp at h
 ·split at h
  ·rename_i u hu
   split at h
   ·rename_i hs
    cases h
    exact (z3g hs).2 (hc _ (Array.mem_of_getElem? hu))
   ·simp at h
  ·simp at h
 ·simp at h

def zds (P:Program) (T:TypeId) (b:Blk) (off:Nat):Option Value:=match b.T with
 | .ty _=>zc3 P T b.c off
 | .raw _ _=>match zc3 P T b.c off with
  | some v=>if za0 v then some v else none
  | none=>none
 | .mp=>none
theorem zkw (v:Value):zan (λk=>k) v=v:=by
 have h0:∀ v,zao (λk=>k) v=v:=λv=>by unfold zao;split<;>rfl
 unfold zan
 split
 ·have:(zao λk=>k)=id:=funext h0
  rw [this];simp
 ·rw [h0]
 ·exact h0 _
theorem zil {T:TypeId} {k off:Nat} {b:Blk} {v:Value} (h:zds P T b off=some v) {W:World} (hb:W.heap[k]? = some (b.obj r)):(loadVar T ⟨k,off,none⟩).run P W=.ok (ren r v) W:=by
 obtain ⟨c,t⟩:=b
 cases t with
 | ty t=>exact zgy h hb
 | raw t fr =>
  simp only [zds] at h
  split at h
  ·rename_i u hu
   split at h
   ·rename_i hf
    cases h
    have e:c.map (zan λk=>k)=c:=zbn λx _=>zkw x
    have:=zgy (r:=λk=>k) hu (W:=W) (b:=k) (T':=t) (fr:=fr) (by rw [e];exact hb)
    rw [this,zax hf,zax hf]
   ·cases h
  ·cases h
 | mp=>simp [zds] at h
theorem zy9 {T:TypeId} {b:Blk} {off:Nat} {v:Value} (h:zds P T b off=some v) (hb:b.ids D):zap D v:=by
 obtain ⟨c,t⟩:=b
 cases t with
 | ty t=>exact zkp h hb
 | raw t fr =>
  simp only [zds] at h
  split at h
  ·split at h
   ·rename_i hf;cases h;exact zak hf
   ·cases h
  ·cases h
 | mp=>simp [zds] at h
def zct (c:Array Value) (o:Nat):List Value->Array Value
 | []=>c
 | v::vs=>zct (c.setIfInBounds o v) (o+1) vs
theorem zv4 (f:Value->Value) (vs:List Value):∀ (c:Array Value) (o:Nat),(zct c o vs).map f=zct (c.map f) o (vs.map f):=by
 induction vs with
 | nil=>intro c o;rfl
 | cons v vs ih=>intro c o;simp only [zct,List.map_cons];rw [ih,Array.map_setIfInBounds]
theorem zv5 {Q:Value->Prop} (vs:List Value) (hv:∀ x∈vs,Q x):∀ (c:Array Value) (o:Nat),(∀ x∈c,Q x)->∀ x∈zct c o vs,Q x:=by
 induction vs with
 | nil=>intro c o hc;exact hc
 | cons v vs ih =>
  intro c o hc
  refine ih (λx hx=>hv x (List.mem_cons_of_mem _ hx)) _ _ (λx hx=>?_)
  rcases Array.mem_or_eq_of_mem_setIfInBounds hx with h|h
  ·exact hc x h
  ·exact h▸hv v (by simp)

theorem zle {x:Addr} {v u:Value} (hv:zla v=true) {W:World} (hu:W.cell? x=some u) (hf:W.frozen? x=false):(store x v).run P W=.ok () (W.setCell x v):=by
 unfold store
 cases v with
 | agg _=>simp [zla] at hv
 | tuple _=>simp [zla] at hv
 | _=>simp [Sem.run,hu,hf]

theorem zim {b:Nat} {T:TypeId} (vs:List Value) (h1:∀ v∈vs,zla v=true):∀ (c:Array Value) (o i:Nat) (W:World),W.heap[b]? = some (.cells c T (0,0))->o+i+vs.length<=c.size ->
  (storeCells ⟨b,o,none⟩ vs i).run P W=.ok () (W.putObj b (.cells (zct c (o+i) vs) T (0,0))):=by
 induction vs with
 | nil =>
  intro c o i W hb _
  obtain ⟨hlt,he⟩:=Array.getElem?_eq_some_iff.1 hb
  have:W.putObj b (.cells c T (0,0))=W:=by
   unfold World.putObj
   have:W.heap.setIfInBounds b (.cells c T (0,0))=W.heap:=by
    apply Array.ext_getElem?
    intro k
    by_cases e:b=k
    ·subst e;simp [he,hlt]
    ·simp [Array.getElem?_setIfInBounds_ne e]
   rw [this]
  simp [storeCells,zct,this]
 | cons v vs ih =>
  intro c o i W hb hle
  simp only [List.length_cons] at hle
  obtain ⟨hlt,he⟩:=Array.getElem?_eq_some_iff.1 hb
  have hcell:(W.cell? ⟨b,o+i,none⟩).isSome=true:=by
   rw [cell_of_row W b (o+i) _ _ _ hb];simp;omega
  obtain ⟨u,hu⟩:=Option.isSome_iff_exists.1 hcell
  have hfr:W.frozen? ⟨b,o+i,none⟩=false:=by simp [World.frozen?,hb]
  have hv:=h1 v (by simp)
  have hset:W.setCell ⟨b,o+i,none⟩ v=W.putObj b (.cells (c.setIfInBounds (o+i) v) T (0,0)):=by
   unfold World.setCell World.putObj
   congr 1
   apply Array.ext_getElem?
   intro k
   by_cases e:b=k
   ·subst e;rw [Array.getElem?_modify,if_pos rfl,hb];simp [hlt]
   ·simp [Array.getElem?_modify,e,Array.getElem?_setIfInBounds_ne e]
  have hst:(store ⟨b,o+i,none⟩ v).run P W=.ok () (W.putObj b (.cells (c.setIfInBounds (o+i) v) T (0,0))):=by
   rw [<-hset]
   exact zle hv hu hfr
  have hb':(W.putObj b (.cells (c.setIfInBounds (o+i) v) T (0,0))).heap[b]? = some (.cells (c.setIfInBounds (o+i) v) T (0,0)):=World.putObj_heap_same hlt
  have:=ih (λx hx=>h1 x (List.mem_cons_of_mem _ hx)) (c.setIfInBounds (o+i) v) o (i+1) _ hb' (by simp;omega)
  simp only [storeCells,Sem.run_bind,Addr.add_mid,hst,Result.andThen_ok,this]
  simp only [zct,World.putObj]
  congr 2
  ·simp [Nat.add_assoc]

def cellsOf (v:Value):Array Value:=v.cells
theorem zgi {v:Value} (h:∀ vs,v≠.tuple vs):(ren r v).cells=v.cells.map (zan r):=by
 cases v with
 | agg cs=>simp [ren,zas,Value.cells]
 | tuple vs=>exact absurd rfl (h vs)
 | pointer p=>cases p<;>simp [ren,zas,zan,zao,Value.cells]
 | slice p _ _=>cases p<;>simp [ren,zas,zan,zao,Value.cells]
 | map p=>cases p<;>simp [ren,zas,zan,zao,Value.cells]
 | _=>simp [ren,zas,zan,zao,Value.cells]
theorem zgh {v:Value} (h:∀ vs,v≠.tuple vs) (hv:zap D v):∀ x∈v.cells,zaj D x:=by
 cases v with
 | agg cs=>exact hv
 | tuple vs=>exact absurd rfl (h vs)
 | _=>intro x hx;simp [Value.cells] at hx;subst hx;exact hv

def za9:Value->Bool
 | .tuple _=>false
 | .agg cs=>cs.all zla
 | .complex _ _ _=>false
 | _=>true
theorem zcl {v:Value} (h:za9 v=true):∀ vs,v≠.tuple vs:=by intro vs e;rw [e] at h;simp [za9] at h
theorem zpb {v:Value} (h:za9 v=true):∀ x∈v.cells,zla x=true:=by
 cases v with
 | agg cs=>exact λx hx=>Array.all_eq_true_iff_forall_mem.1 h x hx
 | tuple vs=>simp [za9] at h
 | _=>intro x hx;simp [Value.cells] at hx;subst hx;simp_all [zla,za9]

theorem zjs {T:TypeId} {c:Array Value} {off:Nat} {v:Value} (hv:za9 v=true) (hs:zaz P T=some v.cells.size) (hle:off+v.cells.size<=c.size) {W:World} {b:Nat} {T':TypeId}
  (hb:W.heap[b]? = some (.cells (c.map (zan r)) T' (0,0))) :
  (storeVar T ⟨b,off,none⟩ (ren r v)).run P W=.ok () (W.putObj b (.cells ((zct c off v.cells.toList).map (zan r)) T' (0,0))):=by
 have hc:=zgi (r:=r) (zcl hv)
 have:=zim (P:=P) (T:=T') (b:=b) (v.cells.map (zan r)).toList (λx hx=>by
  simp only [Array.toList_map,List.mem_map] at hx
  obtain ⟨y,hy,rfl⟩:=hx
  exact z0b (zpb hv y (by simpa using hy))) (c.map (zan r)) off 0 W hb (by simpa using hle)
 simp only [Nat.add_zero] at this
 rw [zv4]
 simp only [Array.toList_map] at this
 simp [storeVar,Sem.run_bind,zb1 hs,hc,this]
end

def zeh (op:BinOp) (k:IntKind) (a b:Int):Int :=
 match op with
 | .and=>k.wrap (BitVec.ofInt k.bits a &&& BitVec.ofInt k.bits b).toNat
 | .or=>k.wrap (BitVec.ofInt k.bits a ||| BitVec.ofInt k.bits b).toNat
 | .xor=>k.wrap (BitVec.ofInt k.bits a ^^^ BitVec.ofInt k.bits b).toNat
 | _=>k.wrap (BitVec.ofInt k.bits a &&& ~~~ BitVec.ofInt k.bits b).toNat

def zm7 (op:BinOp) (k:IntKind) (a:Int) (k':IntKind) (b:Int):Option Value :=
 match op with
 | .shl=>if 0<=b then some (.int k (k.wrap (a*2^min b.toNat k.bits))) else none
 | .shr=>if 0<=b then some (.int k (a.fdiv (2^min b.toNat k.bits))) else none
 | .add=>if k=k' then some (.int k (k.wrap (a+b))) else none
 | .sub=>if k=k' then some (.int k (k.wrap (a - b))) else none
 | .mul=>if k=k' then some (.int k (k.wrap (a*b))) else none
 | .quo=>if k=k' then if b=0 then none else some (.int k (k.wrap (a.tdiv b))) else none
 | .rem=>if k=k' then if b=0 then none else some (.int k (a.tmod b)) else none
 | .and=>if k=k' then some (.int k (zeh .and k a b)) else none
 | .or=>if k=k' then some (.int k (zeh .or k a b)) else none
 | .xor=>if k=k' then some (.int k (zeh .xor k a b)) else none
 | .andNot=>if k=k' then some (.int k (zeh .andNot k a b)) else none
 | .eql=>if k=k' then some (.bool (a==b)) else none
 | .neq=>if k=k' then some (.bool (a != b)) else none
 | .lss=>if k=k' then some (.bool (a<b)) else none
 | .leq=>if k=k' then some (.bool (a<=b)) else none
 | .gtr=>if k=k' then some (.bool (b<a)) else none
 | .geq=>if k=k' then some (.bool (b<=a)) else none

def zwj:List Value->List Value->Option Bool
 | [],[]=>some true
 | .int k a::xs,.int k' b::ys=>if k=k' then match zwj xs ys with
  | some r=>some (a==b&&r)
  | none=>none
  else none
 | _,_=>none

def zmx (P:Program) (T:TypeId):Bool:=match P.underlying T with|some .bool=>true|_=>false
def zxd (P:Program) (T:TypeId):Option Nat :=
 match P.underlying T with
 | some (.array n e)=>match P.underlying e with
  | some (.int _)=>match zaz P e with
   | some 1=>if P.eqGuardType P.depth T then none else some n
   | _=>none
  | _=>none
 | _=>none

def z2m (P:Program) (T:TypeId) (xs ys:Array Value):Option Bool :=
 match zxd P T with
 | some n=>if xs.size=n/\ys.size=n then zwj xs.toList ys.toList else none
 | none=>none

def jh2 (P:Program) (T:TypeId):Option Nat :=
 match zxd P T,zaz P T,zhg P T with
 | some n,some m,some true=>if m=n then some n else none
 | _,_,_=>none
def jld (P:Program) (T:TypeId):Bool :=
 match P.underlying T,zhg P T with
 | some (.int _),some false=>true
 | _,_=>false
def jer (P:Program) (T off:Nat) (xs ys:Array Value):Option Bool :=
 match jh2 P T with
 | some n=>if off+n<=xs.size/\off+n<=ys.size then z2m P T (xs.extract off (off+n)) (ys.extract off (off+n)) else none
 | none=>if jld P T=true then match xs[off]?,ys[off]? with
   | some (.int k a),some (.int k' b)=>if k=k' then some (a==b) else none
   | _,_=>none
  else none
def z28 (P:Program) (xs ys:Array Value):List (TypeId×Nat)->Option Bool
 | []=>some true
 | f::fs=>match jer P f.1 f.2 xs ys,z28 P xs ys fs with
  | some a,some b=>some (a&&b)
  | _,_=>none
def zns (P:Program) (T:TypeId):Option (List (TypeId×Nat)) :=
 match P.underlying T with
 | some (.struct fs) => if P.stoodInHeld T || P.eqGuardType P.depth T || fs.toList.any (λf => f.name == "_") then none else some (fs.toList.map λf => (f.type, f.offset))
 | _=>none
def zua (P:Program) (T:TypeId) (n:Option Nat) (st:Option (List (TypeId×Nat))) (xs ys:Array Value):Option Bool :=
 match n with
 | some _=>z2m P T xs ys
 | none=>match st with
  | some l=>if (xs.all zbj&&ys.all zbj)=true then z28 P xs ys l else none
  | none=>none
def z2f (P:Program) (T:TypeId) (xs ys:Array Value):Option Bool:=zua P T (zxd P T) (zns P T) xs ys
def zmj (P:Program) (T:TypeId):Bool:=match P.underlying T with|some (.slice _)=>true|_=>false
def znz (P:Program) (op:BinOp) (T:TypeId) (x y:Value):Option Value :=
 match x,y with
 | .int k a,.int k' b=>zm7 op k a k' b
 | .bool a,.bool b=>match op with
  | .eql=>if zmx P T then some (.bool (a==b)) else none
  | .neq=>if zmx P T then some (.bool (a != b)) else none
  | _=>none
 | .agg xs,.agg ys=>match op with
  | .eql=>match z2f P T xs ys with
   | some r=>some (.bool r)
   | none=>none
  | .neq=>match z2f P T xs ys with
   | some r=>some (.bool (!r))
   | none=>none
  | _=>none
 | .slice p _ _,.slice none 0 0=>match op with
  | .eql=>if zmj P T then some (.bool p.isNone) else none
  | .neq=>if zmj P T then some (.bool (!p.isNone)) else none
  | _=>none
 | _,_=>none

def un1 (op:UnOp) (x:Value):Option Value :=
 match op,x with
 | .neg,.int k a=>some (.int k (k.wrap (0 - a)))
 | .xor,.int k a=>some (.int k (zeh .xor k (if k.signed then -1 else k.max) a))
 | .not,.bool b=>some (.bool !b)
 | _,_=>none

def zm0 (P:Program) (src dst:TypeId) (x:Value):Option Value :=
 match P.underlying src,P.underlying dst,x with
 | some _,some (.int k),.int _ n=>some (.int k (k.wrap n))
 | _,_,_=>none

section
variable {P:Program}

theorem zuu {op:BinOp} {T:TypeId} {k k':IntKind} {a b:Int} {v:Value} (h:zm7 op k a k' b=some v) (W:World) :
  (binOp op T (.int k a) (.int k' b)).run P W=.ok v W/\za0 v=true:=by
 cases op<;>simp only [zm7] at h
 case shl =>
  split at h
  ·cases h;rename_i hb
   refine ⟨?_,rfl⟩
   have:¬b<0:=by omega
   simp [binOp,Op.shift,this]
  ·cases h
 case shr =>
  split at h
  ·cases h;rename_i hb
   refine ⟨?_,rfl⟩
   have:¬b<0:=by omega
   simp [binOp,Op.shift,this]
  ·cases h
 case quo =>
  split at h
  ·split at h
   ·cases h
   ·cases h;rename_i hk hb;subst hk
    exact ⟨by simp [binOp,Op.intDiv,hb],rfl⟩
  ·cases h
 case rem =>
  split at h
  ·split at h
   ·cases h
   ·cases h;rename_i hk hb;subst hk
    exact ⟨by simp [binOp,Op.intDiv,hb],rfl⟩
  ·cases h
 all_goals
  split at h
  ·cases h;rename_i hk;subst hk
   exact ⟨by simp [binOp,Op.intArith,Op.intBits,Op.intCmp,zeh],rfl⟩
  ·cases h

theorem zpq {e:TypeId} {kk:IntKind} (hu:P.underlying e=some (.int kk)) {cs:Array Value} {i:Nat} {v:Value} (h:cs[i]? = some v) (W:World):(part e cs (i*1)).run P W=.ok v W:=by
 have ha:(isAgg e).run P W=.ok false W:=zfv (by simp [zhg,hu]) W
 simp [part,ha,h]

theorem zgx {d:Nat} {e:TypeId} {kk:IntKind} (hu:P.underlying e=some (.int kk)) (W:World):∀ (m j:Nat) (xs ys:Array Value) (r:Bool),j+m=xs.size->j+m=ys.size->zwj (xs.toList.drop j) (ys.toList.drop j)=some r ->
  (Op.eqItems (d+1) e 1 xs ys (List.range' j m)).run P W=.ok r W
 | 0,j,xs,ys,r,hx,hy,h=>by
  rw [List.drop_eq_nil_of_le (by simp;omega),List.drop_eq_nil_of_le (by simp;omega)] at h
  simp only [zwj,Option.some.injEq] at h
  subst h
  simp [Op.eqItems]
 | m+1,j,xs,ys,r,hx,hy,h=>by
  have hjx:j<xs.size:=by omega
  have hjy:j<ys.size:=by omega
  rw [List.drop_eq_getElem_cons (l:=xs.toList) (by simpa using hjx),List.drop_eq_getElem_cons (l:=ys.toList) (by simpa using hjy)] at h
  have gx:xs[j]? = some xs[j]:=Array.getElem?_eq_getElem hjx
  have gy:ys[j]? = some ys[j]:=Array.getElem?_eq_getElem hjy
  simp only [Array.getElem_toList] at h
  generalize xs[j]=x at *
  generalize ys[j]=y at *
  unfold zwj at h
  split at h
  ·rename_i e1 _;cases e1
  ·rename_i k a xs' k' b ys' e1 e2
   simp only [List.cons.injEq] at e1 e2
   obtain ⟨rfl,rfl⟩:=e1
   obtain ⟨rfl,rfl⟩:=e2
   split at h
   ·rename_i hk;subst hk
    split at h
    ·rename_i q hq
     cases h
     have hrec:=zgx (d:=d) hu W m (j+1) xs ys q (by omega) (by omega) hq
     have heq:(Op.equalIn (d+1) e (.int k a) (.int k b)).run P W=.ok (a==b) W:=by simp [Op.equalIn,run_underlying hu]
     simp only [List.range'_succ,Op.eqItems,Sem.run_bind,zpq hu gx,zpq hu gy,Result.andThen_ok,heq]
     cases hab:a==b
     ·simp
     ·simpa using hrec
    ·cases h
   ·cases h
  ·cases h

theorem zlm {T:TypeId} {xs ys:Array Value} {r:Bool} (d:Nat) (h:z2m P T xs ys=some r) (W:World):(Op.equalIn (d+2) T (.agg xs) (.agg ys)).run P W=.ok r W/\P.eqGuardType P.depth T=false:=by
 unfold z2m at h
 split at h
 ·rename_i n hn
  split at h
  ·rename_i hs
   unfold zxd at hn
   split at hn
   ·rename_i m e hu
    split at hn
    ·rename_i kk hue
     split at hn
     ·rename_i hsz
      split at hn
      ·cases hn
      ·rename_i hg
       cases hn
       refine ⟨?_,by simpa using hg⟩
       unfold zaz at hsz
       cases hi:P.info? e with
       | none=>simp [hi] at hsz
       | some i =>
        have hi1:i.size=1:=by simpa [hi] using hsz
        have hc:P.cellsOf e=1:=by simp [Program.cellsOf,hi,hi1]
        rw [run_equalIn_array W (d+1) xs ys hu hi,hc,List.range_eq_range']
        exact zgx (d:=d) hue W _ 0 xs ys r (by omega) (by omega) (by simpa using h)
     ·cases hn
    ·cases hn
   ·cases hn
  ·cases h
 ·cases h

theorem zpr {T:TypeId} {m off:Nat} {xs:Array Value} (h1:zhg P T=some true) (h2:zaz P T=some m) (h:off+m<=xs.size) (W:World):(part T xs off).run P W=.ok (.agg (xs.extract off (off+m))) W:=by
 have ha:=zfv h1 W
 have hs:=zb1 h2 W
 simp [part,ha,hs,h]
theorem zps {T:TypeId} {off:Nat} {xs:Array Value} {v:Value} (h1:zhg P T=some false) (h:xs[off]? = some v) (W:World):(part T xs off).run P W=.ok v W:=by
 have ha:=zfv h1 W
 simp [part,ha,h]
theorem zuo {T off:Nat} {xs ys:Array Value} {r:Bool} (d:Nat) (h:jer P T off xs ys=some r) (W:World) :
  ∃ a b,(part T xs off).run P W=.ok a W/\(part T ys off).run P W=.ok b W/\(Op.equalIn (d+2) T a b).run P W=.ok r W:=by
 unfold jer at h
 split at h
 ·rename_i n hn
  split at h
  ·rename_i hs
   unfold jh2 at hn
   split at hn
   ·rename_i n' m h1 h2 h3
    split at hn
    ·rename_i e
     cases hn
     subst e
     exact ⟨_,_,zpr h3 h2 hs.1 W,zpr h3 h2 hs.2 W,(zlm d h W).1⟩
    ·cases hn
   ·cases hn
  ·cases h
 ·split at h
  ·rename_i hi
   unfold jld at hi
   split at hi
   ·rename_i kk h1 h2
    split at h
    ·rename_i k a k' b e1 e2
     split at h
     ·rename_i e;subst e
      cases h
      exact ⟨_,_,zps h2 e1 W,zps h2 e2 W,by simp [Op.equalIn,run_underlying h1]⟩
     ·cases h
    ·cases h
   ·cases hi
  ·cases h
theorem zls {xs ys : Array Value} (d : Nat) (W : World) : ∀ (fs : List Field) (r : Bool), (∀ f ∈ fs, f.name ≠ "_") -> z28 P xs ys (fs.map λf => (f.type, f.offset)) = some r -> (Op.eqFields (d + 2) xs ys fs).run P W = .ok r W
 | [],r,_,h=>by
  simp only [List.map_nil,z28,Option.some.injEq] at h
  subst h;rfl
 | f::fs,r,hn,h=>by
  simp only [List.map_cons,z28] at h
  split at h
  ·rename_i a b ha hb
   cases h
   obtain ⟨x,y,p1,p2,p3⟩:=zuo d ha W
   have ih:=zls d W fs b (λg hg=>hn g (List.mem_cons_of_mem _ hg)) hb
   have hnf:=hn f (by simp)
   cases a
   ·simp [Op.eqFields,hnf,p1,p2,p3]
   ·simp [Op.eqFields,hnf,p1,p2,p3,ih]
  ·cases h
theorem zll {T:TypeId} {xs ys:Array Value} {r:Bool} (h:z2f P T xs ys=some r) (W:World):(Op.equal T (.agg xs) (.agg ys)).run P W=.ok r W/\P.eqGuardType P.depth T=false:=by
 unfold z2f zua at h
 split at h
 ·exact zlm 9998 h W
 ·split at h
  ·rename_i l hl
   split at h
   ·unfold zns at hl
    split at hl
    ·rename_i fs hu
     split at hl
     ·cases hl
     ·rename_i hc
      cases hl
      simp only [Bool.or_eq_true,not_or,Bool.not_eq_true] at hc
      have hfo:P.fieldsOf T=fs:=by unfold Program.fieldsOf;rw [hu]
      refine ⟨?_,hc.1.2⟩
      have e:=run_equalIn_struct (P:=P) W 9999 T xs ys (by rw [hfo];exact hu) hc.1.1
      rw [hfo] at e
      have:=zls 9997 W fs.toList r (λf hf hn=>by
       have:=List.any_eq_false.1 hc.2 f hf
       simp [hn] at this) h
      exact e.trans this
    ·cases hl
   ·cases h
  ·cases h
theorem zuc {op:BinOp} {T:TypeId} {x y:Value} {ox oy:Operand} {v:Value} (h:znz P op T x y=some v) (W:World) :
  (do eqGuard op T ox oy x y;binOp op T x y).run P W=.ok v W/\za0 v=true:=by
 unfold znz at h
 split at h
 ·rename_i k a k' b
  have h1:=zuu (P:=P) (T:=T) h W
  refine ⟨?_,h1.2⟩
  have hg:(eqGuard op T ox oy (.int k a) (.int k' b)).run P W=.ok () W:=by unfold eqGuard;split<;>rfl
  simp only [Sem.run_bind,hg,Result.andThen_ok,h1.1]
 ·rename_i a b
  have hg:(eqGuard op T ox oy (.bool a) (.bool b)).run P W=.ok () W:=by unfold eqGuard;split<;>rfl
  split at h
  ·split at h
   ·rename_i hb
    cases h
    have hu:P.underlying T=some .bool:=by unfold zmx at hb;split at hb<;>simp_all
    exact ⟨by simp only [Sem.run_bind,hg,Result.andThen_ok,binOp,run_equal_bool W T a b hu,Sem.run_pure],rfl⟩
   ·cases h
  ·split at h
   ·rename_i hb
    cases h
    have hu:P.underlying T=some .bool:=by unfold zmx at hb;split at hb<;>simp_all
    exact ⟨by simp only [Sem.run_bind,hg,Result.andThen_ok,binOp,run_equal_bool W T a b hu,Sem.run_pure];cases a<;>cases b<;>rfl,rfl⟩
   ·cases h
  ·cases h
 ·rename_i xs ys
  split at h
  ·split at h
   ·rename_i r hr
    cases h
    have h1:=zll hr W
    have hg:(eqGuard .eql T ox oy (.agg xs) (.agg ys)).run P W=.ok () W:=by simp [eqGuard,h1.2]
    exact ⟨by simp [Sem.run_bind,hg,binOp,h1.1],rfl⟩
   ·cases h
  ·split at h
   ·rename_i r hr
    cases h
    have h1:=zll hr W
    have hg:(eqGuard .neq T ox oy (.agg xs) (.agg ys)).run P W=.ok () W:=by simp [eqGuard,h1.2]
    exact ⟨by simp [Sem.run_bind,hg,binOp,h1.1],rfl⟩
   ·cases h
  ·cases h
 ·rename_i p l c
  have hg:(eqGuard op T ox oy (.slice p l c) (.slice none 0 0)).run P W=.ok () W:=by unfold eqGuard;split<;>rfl
  split at h
  ·split at h
   ·rename_i hs
    cases h
    unfold zmj at hs
    split at hs
    ·rename_i e hu
     exact ⟨by simp only [Sem.run_bind,hg,Result.andThen_ok,binOp,run_equal_slice_nil W T e p l c hu,Sem.run_pure],rfl⟩
    ·cases hs
   ·cases h
  ·split at h
   ·rename_i hs
    cases h
    unfold zmj at hs
    split at hs
    ·rename_i e hu
     exact ⟨by simp only [Sem.run_bind,hg,Result.andThen_ok,binOp,run_equal_slice_nil W T e p l c hu,Sem.run_pure],rfl⟩
    ·cases hs
   ·cases h
  ·cases h
 ·cases h

theorem z08 {op:UnOp} {x v:Value} (h:un1 op x=some v) (W:World):(Op.unary op x).run P W=.ok v W/\za0 v=true:=by
 unfold un1 at h
 split at h
 ·cases h;exact ⟨by simp [Op.unary,Op.intArith],rfl⟩
 ·cases h;exact ⟨by simp [Op.unary,Op.intBits,zeh],rfl⟩
 ·cases h;exact ⟨by simp [Op.unary],rfl⟩
 ·cases h

theorem zqp {src dst:TypeId} {x v:Value} (h:zm0 P src dst x=some v) (W:World):(convert src dst x).run P W=.ok v W/\za0 v=true:=by
 unfold zm0 at h
 split at h
 ·rename_i u k kk m hs hd
  cases h
  refine ⟨?_,rfl⟩
  unfold convert
  simp only [Sem.run_bind,run_underlying hs,run_underlying hd,Result.andThen_ok]
  cases u<;>simp [Conv.intToInt]
 ·cases h
end
def mpC (l:List (ByteArray×Value)):Array Value:=(l.flatMap λp=>[Value.string p.1,p.2]).toArray
def mpB (l:List (ByteArray×Value)):Blk:=⟨mpC l,.mp⟩
def z5a:List Value->Option (List (ByteArray×Value))
 | []=>some []
 | .string s::v::l=>(z5a l).map ((s,v)::·)
 | _=>none
def z9x (b:Blk):Option (List (ByteArray×Value)):=match b.T with
 | .mp=>z5a b.c.toList
 | _=>none
theorem z09:∀ l:List (ByteArray×Value),z5a (l.flatMap λp=>[Value.string p.1,p.2])=some l
 | []=>rfl
 | p::l=>by simp [z5a,z09 l]
theorem ztw:∀ (cs:List Value) (l:List (ByteArray×Value)),z5a cs=some l->cs=l.flatMap λp=>[Value.string p.1,p.2]
 | [],l,h=>by simp [z5a] at h;subst h;rfl
 | [v],l,h=>by cases v<;>simp [z5a] at h
 | k::v::cs,l,h=>by
  cases k with
  | string s =>
   simp only [z5a,Option.map_eq_some_iff] at h
   obtain ⟨l',h1,rfl⟩:=h
   rw [ztw cs l' h1];simp
  | _=>simp [z5a] at h
theorem ztc (l:List (ByteArray×Value)):z9x (mpB l)=some l:=by simp [z9x,mpB,mpC,z09]
theorem ztb {b:Blk} {l:List (ByteArray×Value)} (h:z9x b=some l):b=mpB l:=by
 obtain ⟨c,T⟩:=b
 cases T with
 | mp =>
  simp only [z9x] at h
  unfold mpB mpC
  rw [<-ztw _ _ h]
 | _=>simp [z9x] at h
def zda (s:ByteArray):List (ByteArray×Value)->Option Value
 | []=>none
 | p::l=>if (s==p.1)=true then some p.2 else zda s l
def zn0 (r:Nat->Nat):List (ByteArray×Value)->Nat->List MapEntry
 | [],_=>[]
 | p::l,i=>⟨.string p.1,zan r p.2,i⟩::zn0 r l (i+1)
theorem zss (r:Nat->Nat):∀ (l:List (ByteArray×Value)) (i:Nat),(zn0 r l i).length=l.length
 | [],_=>rfl
 | p::l,i=>by simp [zn0,zss r l]
theorem zzb (r:Nat->Nat):∀ (l:List (ByteArray×Value)) (i:Nat),mpL ((l.flatMap λp=>[Value.string p.1,p.2]).map (zan r)) i=zn0 r l i
 | [],_=>rfl
 | p::l,i=>by
  simp only [List.flatMap_cons,List.cons_append,List.nil_append,List.map_cons,mpL,zn0,zzb r l]
  rfl
theorem zq6 (r:Nat->Nat) (l:List (ByteArray×Value)):(mpB l).obj r=.map (zn0 r l 0).toArray l.length:=by
 unfold Blk.obj mpB z9w mpC
 simp only [List.map_toArray,zzb,zss]
theorem zsr (r:Nat->Nat) (q:ByteArray×Value):∀ (l:List (ByteArray×Value)) (i:Nat),zn0 r (l++[q]) i=zn0 r l i++[⟨.string q.1,zan r q.2,i+l.length⟩]
 | [],i=>by simp [zn0]
 | p::l,i=>by simp only [List.cons_append,zn0,zsr r q l,List.length_cons];rw [show i+1+l.length=i+(l.length+1) by omega]
theorem zoo (r:Nat->Nat) (s:ByteArray):∀ (l:List (ByteArray×Value)) (i j:Nat),zda s l=none->Instr.findNow .string (.string s) (zn0 r l i) j=some none
 | [],_,_,_=>rfl
 | p::l,i,j,h=>by
  simp only [zda] at h
  split at h
  ·cases h
  ·rename_i hc
   simp only [zn0,Instr.findNow,Instr.sameNow]
   rw [show (s==p.1)=false by simpa using hc]
   exact zoo r s l (i+1) (j+1) h
theorem zop (r:Nat->Nat) (s:ByteArray) {v:Value}:∀ (l:List (ByteArray×Value)) (i j:Nat),zda s l=some v->∃ k,Instr.findNow .string (.string s) (zn0 r l i) j=some (some (k,zan r v))
 | [],_,_,h=>by cases h
 | p::l,i,j,h=>by
  simp only [zda] at h
  split at h
  ·rename_i hc
   cases h
   simp only [zn0,Instr.findNow,Instr.sameNow,hc]
   exact ⟨j,rfl⟩
  ·rename_i hc
   simp only [zn0,Instr.findNow,Instr.sameNow]
   rw [show (s==p.1)=false by simpa using hc]
   exact zop r s l (i+1) (j+1) h
def zgz (P:Program) (T:TypeId):Bool:=match P.underlying T with
 | some (.map kt _)=>(match P.underlying kt with|some .string=>true|_=>false)
 | _=>false
theorem zpu {P:Program} {T:TypeId} (h:zgz P T=true):∃ kt e,P.underlying T=some (.map kt e)/\P.underlying kt=some .string:=by
 unfold zgz at h
 split at h
 ·rename_i kt e hk
  split at h
  ·rename_i hs;exact ⟨kt,e,hk,hs⟩
  ·cases h
 ·cases h
section
variable {P:Program} {T:TypeId} {W:World} {k:Nat} {s:ByteArray} {r:Nat->Nat} {l:List (ByteArray×Value)}
theorem zv0 (hT:zgz P T=true) (hk:W.heap[k]? = some ((mpB l).obj r)) (hf:zda s l=none) {x v:Value} (hx:x=zan r v):(Instr.mapUpdate T (.map (some k)) (.string s) x).run P W=.ok () (W.putObj k ((mpB (l++[(s,v)])).obj r)):=by
 obtain ⟨kt,e,h1,h2⟩:=zpu hT
 rw [zq6] at hk |-
 have hfn:(Instr.findKey kt (.string s) (zn0 r l 0).toArray.toList).run P W=.ok none W:=MapKept.run_findKey h2 (zoo r s l 0 0 hf)
 subst hx
 unfold Instr.mapUpdate
 simp only [Sem.run_bind,run_underlying h1,Result.andThen_ok,MapKept.run_getObj_map hk,MapKept.run_checkKey h2 (k:=.string s) trivial false 9999,hfn,MapKept.run_setObj_map _ hk]
 simp [World.putObj,zsr]
theorem zv1 (hT:zgz P T=true) (hk:W.heap[k]? = some ((mpB l).obj r)) {v:Value} (hf:zda s l=some v):(Instr.lookup T (.map (some k)) (.string s) false).run P W=.ok (zan r v) W:=by
 obtain ⟨kt,e,h1,h2⟩:=zpu hT
 rw [zq6] at hk
 obtain ⟨q,hq⟩:=zop r s l 0 0 hf
 have hfn:(Instr.findKey kt (.string s) (zn0 r l 0).toArray.toList).run P W=.ok (some (q,zan r v)) W:=MapKept.run_findKey h2 hq
 unfold Instr.lookup
 simp only [Sem.run_bind,run_underlying h1,Result.andThen_ok,MapKept.run_getObj_map hk,Sem.run_pure,MapKept.run_checkKey h2 (k:=.string s) trivial _ 9999,hfn]
 simp
end

def val (v:Value) (rs:List Nat):Eff:=⟨v,rs,[],[],none,false⟩
def zlv (k:Nat):Value:=.pointer (some ⟨k,0,none⟩)

def zbm (G:Hp):Prop:=∀ k b,G k=some b->k<100/\∀ x∈b.c,zbj x=true

inductive Out
 | ret (v:Value)
 | pan (v:Value)
def Out.eff:Out->Eff
 | .ret v=>val v []
 | .pan v=>⟨zbz,[],[],[],some v,false⟩
def Out.holds (W:World):Out->Ending->World->Prop
 | .ret v,e,W'=>e=.returned v/\Below W.heap.size W W'
 | .pan v,e,W'=>e=.panicked [{ v:=v,recovered:=false }]/\Below W.heap.size W W'

def Ret (P:Program) (G:Hp) (f:FuncId) (args:Array Value) (v:Value):Prop :=
 za0 v=true/\(∀ x∈args,za0 x=true)/\(∀ a w,(callFunc f a).run P w=.ok (.enter f a) w) /\
  ∀ W,GOK G W->zef P f args W λe W'=>e=.returned v/\Below W.heap.size W W'
def jhy (P:Program) (f:FuncId) (args:Array Value) (v:Value):Prop:=za0 v=true/\(∀ x∈args,za0 x=true)/\∀ w,(callFunc f args).run P w=.ok (.value v) w
def zli (P:Program) (G:Hp) (f:FuncId) (args:Array Value) (o:Out):Prop :=
 (∀ v,o=.ret v->za0 v=true)/\(∀ x∈args,za0 x=true)/\(∀ a w,(callFunc f a).run P w=.ok (.enter f a) w)/\∀ W,GOK G W->zef P f args W (o.holds W)
def zql (P:Program) (G:Hp) (f:FuncId) (args:Array Value) (C:Eff->Prop):Prop:=∃ o,zli P G f args o/\C o.eff
theorem za4 {P:Program} {G:Hp} {f:FuncId} {args:Array Value} {C:Eff->Prop} {o:Out} (h:zli P G f args o) (hk:C o.eff):zql P G f args C:=⟨o,h,hk⟩
def za2 (P:Program) (G:Hp) (f:FuncId) (args:Array Value) (K:Value->Prop):Prop:=∃ v,(Ret P G f args v\/jhy P f args v)/\K v

inductive Res
 | ret (v:Value) (ws:List (Nat×Blk))
 | pan (v:Value)
 | new (v:Value) (ns:List (Nat×Blk))
def Res.eff (rs:List Nat):Res->Eff
 | .ret v ws=>⟨v,rs,ws,[],none,false⟩
 | .pan v=>⟨zbz,rs,[],[],some v,false⟩
 | .new v ns=>⟨v,rs,[],ns,none,false⟩
def Res.holds (r:Nat->Nat) (D:Nat->Prop) (W:World):Res->Ending->World->Prop
 | .new v ns,e,W'=>(∀ k∈zab ns,¬D k)->∃ r',(∀ k,D k->r' k=r k)/\e=.returned (ren r' v)/\Turn r' (zc7 D ns) W W' [] ns
 | .ret v ws,e,W'=>e=.returned (ren r v)/\Turn r (zc7 D []) W W' ws []
 | .pan v,e,W'=>e=.panicked [{ v:=v,recovered:=false }]/\Below W.heap.size W W'
def Res.fits (hp:Hp) (rs:List Nat):Res->Prop
 | .ret v ws=>zap (dom (rst hp rs)) v/\(∀ k∈zab ws,k∈rs/\dom hp k/\100<=k)/\(∀ k b c,(k,b)∈ws->(k,c)∈ws->b=c)/\∀ p∈ws,p.2.ids (dom (rst hp rs))
 | .pan _=>True
 | .new v ns=>zap (zc7 (dom (rst hp rs)) ns) v/\(∀ k∈zab ns,100<=k)/\(∀ k b c,(k,b)∈ns->(k,c)∈ns->b=c)

structure Fun (P:Program) (G:Hp) (f:FuncId) (args:Array Value) (hp:Hp) (rs:List Nat) (res:Res):Prop where
 enter:∀ a w,(callFunc f a).run P w=.ok (.enter f a) w
 ids:∀ x∈args,zap (dom (rst hp rs)) x
 closed:∀ k b,rst hp rs k=some b->b.ids (dom (rst hp rs))
 fits:res.fits hp rs
 run:∀ r W,GOK G W->Sat r (dom (rst hp rs)) (rst hp rs) W->Inj r (dom (rst hp rs))->(∀ k,k<100->dom (rst hp rs) k->r k=k)->zef P f (args.map (ren r)) W (res.holds r (dom (rst hp rs)) W)
def Res.at (nk:Nat):Res->Prop
 | .new _ ns=>∀ k∈zab ns,nk<=k/\k<nk+8
 | _=>True
def zgn (P:Program) (G:Hp) (f:FuncId) (args:Array Value) (hp:Hp) (nk:Nat) (K:Eff->Prop):Prop:=∃ hp' rs res,(∀ k∈rs,hp' k=hp k)/\(∀ k,k<100->hp' k=G k)/\Fun P G f args hp' rs res/\res.at nk/\K (res.eff rs)
theorem Fun.under {P:Program} {G:Hp} {f:FuncId} {args:Array Value} {hp hp':Hp} {rs:List Nat} {res:Res} (h:Fun P G f args hp' rs res) (e:∀ k,(k<100\/k∈rs)->hp' k=hp k):Fun P G f args hp rs res:=by
 have er:rst hp' rs=rst hp rs:=zfu e
 refine ⟨h.enter,by rw [<-er];exact h.ids,by rw [<-er];exact h.closed,?_,by rw [<-er];exact h.run⟩
 have hf:=h.fits
 cases res with
 | ret v ws =>
  simp only [Res.fits] at hf |-
  rw [<-er]
  refine ⟨hf.1,λk hk=>?_,hf.2.2⟩
  have:=hf.2.1 k hk
  exact ⟨this.1,by unfold dom at *;rw [<-e k (.inr this.1)];exact this.2.1,this.2.2⟩
 | pan v=>trivial
 | new v ns=>simp only [Res.fits] at hf |-;rw [<-er];exact hf

structure XV where
 Y:Option YG
 pn:List FuncId
 dr:Bool

def zd0:Value->Bool
 | .tuple _=>false
 | .complex _ _ _=>false
 | _=>true
def zbs:Value->Bool
 | .tuple _=>false
 | .agg _=>false
 | .func _ _ _=>false
 | .iface _ _=>false
 | _=>true
theorem zc8 {r:Nat->Nat} {v:Value} (h:zbs v=true):ren r v=zao r v:=by cases v<;>simp_all [zbs,ren,zas,zan]
theorem zcb {D:Nat->Prop} {v:Value} (h:zbs v=true):zap D v↔zal D v:=by cases v<;>simp_all [zbs,zap,zau,zaj]

def zek (ts:Nat->Value) (parts:Array (Nat×Operand)):List (Nat×Value):=parts.toList.map λp=>(p.1,gev ts p.2)

def zcn (P:Program) (T:TypeId):Option (List (Nat×Nat) ⊕ Nat) :=
 match P.underlying T with
 | some (.array _ e)=>(zaz P e).map .inr
 | some (.struct fs)=>(fs.toList.mapM λf=>(P.info? f.type).map λi=>(f.offset,i.size)).map .inl
 | _=>none
def z4j:List (Nat×Nat) ⊕ Nat->Nat->Option (Nat×Nat)
 | .inl l,i=>l[i]?
 | .inr m,i=>some (i*m,m)
def zgl (pl:List (Nat×Nat) ⊕ Nat) (cells:Array Value):List (Nat×Value)->Option (Array Value)
 | []=>some cells
 | (i,v)::rest =>
  match z4j pl i with
  | none=>none
  | some (off,size)=>if v.cells.size=size/\off+v.cells.size<=cells.size then zgl pl (zct cells off v.cells.toList) rest else none

def hiG (len cap:Nat):Option Value->Option Nat
 | none=>some len
 | some (.int _ m)=>if 0<=m/\m<=cap then some m.toNat else none
 | _=>none
def loG (h:Nat):Option Value->Option Nat
 | none=>some 0
 | some (.int _ m)=>if 0<=m/\m<=h then some m.toNat else none
 | _=>none
def ze5 (len cap:Nat) (lo hi:Option Value):Option (Nat×Nat) :=
 match hiG len cap hi with
 | none=>none
 | some h=>(loG h lo).map λl=>(l,h)
def slV (a:Option (Nat×Nat)) (s c:Nat):Option (Nat×Nat)->Option Value
 | some (l,h)=>some (.slice (a.map λp=>⟨p.1,if c=l then p.2 else p.2+l*s,none⟩) (h - l) (c - l))
 | none=>none
def slS (s:ByteArray):Option (Nat×Nat)->Option Value
 | some (l,h)=>some (.string (s.extract l h))
 | none=>none
def slX (P:Program) (T:TypeId) (v:Value) (lo hi:Option Value):Option Value :=
 match P.underlying T with
 | some (.array n e)=>match v with
  | .pointer (some ⟨k,off,none⟩)=>match zaz P e with
   | some s=>slV (some (k,off)) s n (ze5 n n lo hi)
   | none=>none
  | _=>none
 | some (.slice e)=>match v with
  | .slice (some ⟨k,off,none⟩) n c=>match zaz P e with
   | some s=>slV (some (k,off)) s c (ze5 n c lo hi)
   | none=>none
  | .slice none n c=>match zaz P e with
   | some s=>slV none s c (ze5 n c lo hi)
   | none=>none
  | _=>none
 | some .string=>match v with
  | .string s=>slS s (ze5 s.size s.size lo hi)
  | _=>none
 | _=>none
def jbr (P:Program) (T:TypeId) (v:Value):Option Value :=
 match P.underlying T with
 | some (.array n _)=>match v with
  | .slice a len _=>if n<=len then some (.pointer a) else none
  | _=>none
 | _=>none
def jci (P:Program) (T:TypeId) (v:Value):Option Value :=
 match P.underlying T with
 | some .string=>match v with
  | .string s=>some (.int .i64 s.size)
  | _=>none
 | some (.array n _)=>some (.int .i64 n)
 | some (.slice _)=>match v with
  | .slice _ n _=>some (.int .i64 n)
  | _=>none
 | _=>none
def zu9 (b:Bool) (x y:Value):Option Value :=
 match x,y with
 | .int k a,.int _ c=>some (.int k (if b then (if a<c then c else a) else (if c<a then c else a)))
 | _,_=>none
def jjd:Value->Option Value
 | .int k a=>some (.int k a)
 | _=>none
def zp7 (b:Bool) (x:Value):List Value->Option Value
 | []=>jjd x
 | y::l=>match zu9 b x y with
  | some z=>zp7 b z l
  | none=>none
def zza (b:Bool):List Value->Option Value
 | []=>none
 | x::l=>zp7 b x l
def zln (P:Program) (ts:Nat->Value) (c:Call):Option Value :=
 match c.callee with
 | .builtin .len=>match c.args.toList,c.argTypes.toList with
  | [x],[T]=>jci P T (gev ts x)
  | _,_=>none
 | .builtin .max=>zza true (c.args.toList.map (gev ts))
 | .builtin .min=>zza false (c.args.toList.map (gev ts))
 | _=>none
def fdX (P:Program) (T:TypeId) (f:Nat):Option (TypeId×Nat) :=
 match P.underlying T with
 | some (.struct fs)=>match fs[f]? with
  | some fd=>match zaz P fd.type with
   | some (_+1)=>some (fd.type,fd.offset)
   | _=>none
  | none=>none
 | _=>none

def zvi (P:Program) (o:Oper) (ts:Nat->Value) (hp:Hp) (K:Value->Prop):Prop :=
 (∀ x∈o.op.operands.toList,okX ts hp x/\za0 (gev ts x)=true)/\∃ v,za0 v=true/\(∀ W,(execOp (gev ts) o).run P W=.ok (.value v) W)/\K v

def okT (ts:Nat->Value):Operand->Prop
 | .tmp t=>nj (ts t)
 | .const v=>za0 v=true
 | .func _=>True
 | _=>False
def jbm (y:YG) (yc:Nat):Eff :=
 match y.pan yc with
 | none=>⟨.bool (yc != y.stop),[],[],[],none,true⟩
 | some pv=>⟨zbz,[],[],[],some pv,true⟩
def OpY (Y:Option YG) (o:Oper) (ts:Nat->Value) (yc:Nat) (e:Eff):Prop :=
 ∃ y f args T,Y=some y/\o.op=.call ⟨.value f,args,T⟩/\okT ts f/\(∀ x∈args.toList,okT ts x/\za0 (gev ts x)=true)/\gev ts f=.func (.yield y.l) #[] #[]/\yc<=y.stop/\y.xs[yc]? = some (args.map (gev ts)) /\
  e=jbm y yc
def zmp (Y:Option YG) (yc l:Nat) (args:Array Value) (C:Eff->Prop):Prop :=
 match Y with
 | some y=>l=y.l/\yc<=y.stop/\y.xs[yc]? = some args/\C (jbm y yc)
 | none=>False

def zit (P:Program) (G:Hp) (V:XV) (nk yc:Nat) (ts:Nat->Value) (hp:Hp) (v:Value) (args:Array Operand) (C:Eff->Prop):Prop :=
 match v with
 | .func (.func g) first cap=>first.size=0/\(∀ x∈args.toList,okX ts hp x) /\
   if cap.size=0/\V.pn.contains g=false/\(args.map (gev ts)).all za0=true then (if V.pn.contains (g+1000000)=true then zql P G g (args.map (gev ts)) C else za2 P G g (args.map (gev ts)) λv=>C (val v [])) else cap.all zbs=true/\zgn P G g (args.map (gev ts)++cap) hp nk C
 | .func (.yield l) first cap=>first.size=0/\cap.size=0/\(∀ x∈args.toList,okT ts x/\za0 (gev ts x)=true)/\zmp V.Y yc l (args.map (gev ts)) C
 | _=>False
def zui (P:Program) (G:Hp) (V:XV) (nk yc:Nat) (ts:Nat->Value) (hp:Hp) (c:Call) (C:Eff->Prop):Prop :=
 match c.callee with
 | .value f=>okT ts f/\zit P G V nk yc ts hp (gev ts f) c.args C
 | _=>(∀ x∈c.args.toList,okX ts hp x)/\match zln P ts c with
  | some v=>C (val v [])
  | none=>False

def fnV:Value->Bool
 | .func _ _ _=>true
 | _=>false
def zut (b:Option Blk) (k:Nat) (s:ByteArray) (v:Value) (C:Eff->Prop):Prop:=match b.bind z9x with
 | some l=>zda s l=none/\100<=k/\C ⟨undef,[k],[(k,mpB (l++[(s,v)]))],[],none,false⟩
 | none=>False
def z9d (hp:Hp) (m k v:Value) (C:Eff->Prop):Prop:=match m with
 | .map (some q)=>(match k with | .string s=>zut (hp q) q s v C|_=>False)
 | _=>False
def jck (b:Option Blk) (k:Nat) (s:ByteArray) (C:Eff->Prop):Prop:=match b.bind z9x with
 | some l=>(match zda s l with|some v=>fnV v=true/\C (val v [k])|none=>False)
 | none=>False
def lkX (hp:Hp) (m k:Value) (C:Eff->Prop):Prop:=match m with
 | .map (some q)=>(match k with | .string s=>jck (hp q) q s C|_=>False)
 | _=>False
def ncX (v:Value) (C:Eff->Prop):Prop :=
 match v with
 | .pointer (some ⟨k,o,none⟩)=>C (val (.pointer (some ⟨k,o,none⟩)) [])
 | _=>False
def tyB (P:Program) (T:TypeId):Option Nat:=(P.info? T).map (·.bytes)
def msZ (P:Program) (e m nk:Nat) (z:Option Value) (b:Option Nat) (v w:Value) (C:Eff->Prop):Prop :=
 match z,b,v with
 | some z,some b,.int .i64 l=>w=.int .i64 l/\za9 z=true/\za0 z=true/\(0<l/\l<=4096)/\b<=4096/\0<m/\C ⟨.slice (some ⟨nk,0,none⟩) l.toNat l.toNat,[],[],[(nk,⟨(Array.range (l.toNat*m)).map (z.cells[·%z.cells.size]!),e⟩)],none,false⟩
 | _,_,_=>False
def msM (P:Program) (e nk:Nat) (m:Option Nat) (v w:Value) (C:Eff->Prop):Prop :=
 match m with
 | some m=>msZ P e m nk (zbq P e) (tyB P e) v w C
 | none=>False
def msU (P:Program) (nk:Nat) (u:Option TypeDesc) (v w:Value) (C:Eff->Prop):Prop :=
 match u with
 | some (.slice e)=>msM P e nk (zaz P e) v w C
 | _=>False
def opX (P:Program) (G:Hp) (V:XV) (yc:Nat) (o:Oper) (ts:Nat->Value) (hp:Hp) (nk:Nat) (C:Eff->Prop):Prop :=
 match o.op with
 | .move x=>okX ts hp x/\C (val (gev ts x) [])
 | .assign x=>okX ts hp x/\C (val (gev ts x) [])
 | .pick c x y=>okX ts hp c/\match gev ts c with
  | .bool b=>(b=true->okX ts hp x)/\(b=false->okX ts hp y)/\C (val (if b then gev ts x else gev ts y) [])
  | _=>False
 | .alloc T=>match zbq P T with
  | some z=>za9 z=true/\za0 z=true/\C ⟨zlv nk,[],[],[(nk,⟨z.cells,T⟩)],none,false⟩
  | none=>False
 | .box T x=>okX ts hp x/\za9 (gev ts x)=true/\C ⟨zlv nk,[],[],[(nk,⟨(gev ts x).cells,T⟩)],none,false⟩
 | .load T x=>okX ts hp x/\match gev ts x with
  | .pointer (some ⟨k,off,none⟩)=>match hp k with
   | some b=>match zds P T b off with
    | some v=>C (val v [k])
    | none=>False
   | none=>False
  | _=>False
 | .store T x y=>okX ts hp x/\okX ts hp y/\match gev ts x with
  | .pointer (some ⟨k,off,none⟩)=>match hp k with
   | some b=>b.T.own=true/\za9 (gev ts y)=true/\zaz P T=some (gev ts y).cells.size/\off+(gev ts y).cells.size<=b.c.size/\100<=k /\
     C ⟨undef,[k],[(k,⟨zct b.c off (gev ts y).cells.toList,b.T⟩)],[],none,false⟩
   | none=>False
  | _=>False
 | .extract x i=>okX ts hp x/\match gev ts x with
  | .tuple vs=>match vs[i]? with
   | some v=>zd0 v=true/\C (val v [])
   | none=>False
  | _=>False
 | .indexAddr T x i=>okX ts hp x/\okX ts hp i/\match gev ts i with
  | .int _ m=>match P.underlying T with
   | some (.array len e)=>match gev ts x with
    | .pointer (some ⟨k,off,none⟩)=>(0<=m/\m<len)/\match zaz P e with
     | some s=>C (val (.pointer (some ⟨k,off+m.toNat*s,none⟩)) [])
     | none=>False
    | _=>False
   | some (.slice e)=>match gev ts x with
    | .slice (some ⟨k,off,none⟩) len _=>(0<=m/\m<len)/\match zaz P e with
     | some s=>C (val (.pointer (some ⟨k,off+m.toNat*s,none⟩)) [])
     | none=>False
    | _=>False
   | _=>False
  | _=>False
 | .index T x i=>okX ts hp x/\okX ts hp i/\match gev ts i with
  | .int _ m=>match P.underlying T with
   | some (.array len e)=>match gev ts x with
    | .agg cs=>(0<=m/\m<len)/\match zaz P e with
     | some s=>match zc3 P e cs (m.toNat*s) with
      | some v=>C (val v [])
      | none=>False
     | none=>False
    | _=>False
   | some .string=>match gev ts x with
    | .string s=>match (if 0<=m then s[m.toNat]? else none) with
     | some b=>C (val (.int .u8 b.toNat) [])
     | none=>False
    | _=>False
   | _=>False
  | _=>False
 | .field T x f=>okX ts hp x/\match fdX P T f with
  | some (t,off)=>match gev ts x with
   | .agg cs=>match zc3 P t cs off with
    | some v=>C (val v [])
    | none=>False
   | _=>False
  | none=>False
 | .fieldAddr T x f=>okX ts hp x/\match fdX P T f with
  | some (_,off)=>match gev ts x with
   | .pointer (some ⟨k,o,none⟩)=>C (val (.pointer (some ⟨k,o+off,none⟩)) [])
   | _=>False
  | none=>False
 | .slice T x lo hi mx=>okX ts hp x/\(∀ y∈lo.toList,okX ts hp y)/\(∀ y∈hi.toList,okX ts hp y)/\mx.isNone=true/\match slX P T (gev ts x) (lo.map (gev ts)) (hi.map (gev ts)) with
  | some v=>C (val v [])
  | none=>False
 | .sliceToArrayPointer T x=>okX ts hp x/\match jbr P T (gev ts x) with
  | some v=>C (val v [])
  | none=>False
 | .makeFunc fn first cap=>(∀ x∈first.toList,okX ts hp x/\zbs (gev ts x)=true)/\(∀ x∈cap.toList,okX ts hp x/\zbs (gev ts x)=true)/\C (val (.func fn (first.map (gev ts)) (cap.map (gev ts))) [])
 | .build T parts=>(∀ p∈parts.toList,okX ts hp p.2/\za9 (gev ts p.2)=true)/\match zbq P T with
  | some z=>za9 z=true/\za0 z=true/\match zcn P T with
   | some pl=>match zgl pl z.cells (zek ts parts) with
    | some cs=>C (val (.agg cs) [])
    | none=>False
   | none=>False
  | none=>False
 | .buildSlice T len parts=>(∀ p∈parts.toList,okX ts hp p.2/\za9 (gev ts p.2)=true)/\match P.underlying T with
  | some (.slice e)=>match zaz P e with
   | some m=>match zbq P e with
    | some z=>za9 z=true/\za0 z=true/\0<len*m/\len*m<=16777216/\match zgl (.inr m) ((Array.range (len*m)).map (z.cells[·%z.cells.size]!)) (zek ts parts) with
     | some cs=>C ⟨.slice (some ⟨nk,0,none⟩) len len,[],[],[(nk,⟨cs,e⟩)],none,false⟩
     | none=>False
    | none=>False
   | none=>False
  | _=>False
 | .makeInterface T x=>okX ts hp x/\zbs (gev ts x)=true/\match P.underlying T with
  | some (.interface _)=>False
  | some _=>C (val (.iface T (gev ts x)) [])
  | none=>False
 | .binOp op T x y _=>okX ts hp x/\okX ts hp y/\match znz P op T (gev ts x) (gev ts y) with
  | some v=>C (val v [])
  | none=>zvi P o ts hp λv=>C (val v [])
 | .unOp op _ x=>okX ts hp x/\match un1 op (gev ts x) with
  | some v=>C (val v [])
  | none=>False
 | .convert S T x=>okX ts hp x/\match zm0 P S T (gev ts x) with
  | some v=>C (val v [])
  | none=>zvi P o ts hp λv=>C (val v [])
 | .call c=>zui P G V nk yc ts hp c C
 | .panic x=>okX ts hp x/\za0 (gev ts x)=true/\match gev ts x with
  | .iface T u=>C ⟨zbz,[],[],[],some (.iface T u),false⟩
  | _=>False
 | .makeMap _ y=>y.isNone=true/\C ⟨.map (some nk),[],[],[(nk,mpB [])],none,false⟩
 | .insert T m k x=>okX ts hp m/\okX ts hp k/\okX ts hp x/\zgz P T=true/\fnV (gev ts x)=true/\z9d hp (gev ts m) (gev ts k) (gev ts x) C
 | .lookup T x i ok=>okX ts hp x/\okX ts hp i/\ok=false/\zgz P T=true/\lkX hp (gev ts x) (gev ts i) C
 | .select _ _=>False
 | .nilCheck x=>okX ts hp x/\ncX (gev ts x) C
 | .makeSlice T x y=>okX ts hp x/\okX ts hp y/\msU P nk (P.underlying T) (gev ts x) (gev ts y) C
 | _=>zvi P o ts hp λv=>C (val v [])

structure Shape (hp:Hp) (nk:Nat) (e:Eff):Prop where
 ws:∀ k∈zab e.ws,k∈e.rs/\dom hp k/\100<=k
 ns:∀ k∈zab e.ns,nk<=k/\k<nk+8
 once:∀ k b c,(k,b)∈e.ws++e.ns->(k,c)∈e.ws++e.ns->b=c

theorem Shape.val {hp:Hp} {nk:Nat} {v:Value} {rs:List Nat}:Shape hp nk (val v rs):=⟨by simp [Gy.val,zab],by simp [Gy.val,zab],by simp [Gy.val]⟩
theorem Shape.new {hp:Hp} {nk:Nat} {v:Value} {b:Blk}:Shape hp nk ⟨v,[],[],[(nk,b)],none,false⟩:=⟨by simp [zab],by simp [zab],by simp;rintro k b c h1 h2 h3 h4;rw [h2,h4]⟩
theorem Shape.wr {hp:Hp} {nk k:Nat} {v:Value} {b:Blk} (hk:dom hp k) (h1:100<=k):Shape hp nk ⟨v,[k],[(k,b)],[],none,false⟩:=⟨by simp [zab];exact ⟨hk,h1⟩,by simp [zab],by simp;rintro k b c h1 h2 h3 h4;rw [h2,h4]⟩

section
variable {P:Program} {o:Oper} {ts:Nat->Value} {hp:Hp} {nk:Nat} {G:Hp} {V:XV} {yc:Nat}

theorem zh0 {D:Nat->Prop}:zc7 D []=D:=funext λk=>by simp [zc7,zab]

theorem evR {r:Nat->Nat} {D:Nat->Prop} {a:Act} {rs:List Nat} {x:Operand} (h:zqf o r D ts a) (hx:x∈o.op.operands) (hk:okX ts hp x) (hlow:∀ k,k<100->D k->r k=k)
  (hD:∀ k,dom (rst hp rs) k->D k):a.eval x=ren r (gev ts x)/\zap D (gev ts x) :=
 ev h hx hk hlow λk hk' hd=>hD k (by unfold dom rst at *;simp [hk',hd])

theorem zcj {v:Value} {rs:List Nat} (h:∀ r D a W,zqf o r D ts a->Sat r D (rst hp rs) W->(∀ k,k<100->D k->r k=k)->(∀ k,dom (rst hp rs) k->D k) ->
  (execOp a.eval o).run P W=.ok (.value (ren r v)) W/\zap D v):OpD P o ts (rst hp (val v rs).rs) (val v rs):=by
 intro r D a W hR hS _ hlow hD _
 obtain ⟨h1,h2⟩:=h r D a W hR hS hlow hD
 unfold zlj
 rw [h1]
 exact ⟨rfl,r,λ_ _=>rfl,rfl,by simp only [val,zh0];exact h2,Turn.of_below (Below.refl _ _)⟩

theorem zsg {x:Operand} (ho:o.op=.move x\/o.op=.assign x) (hx:okX ts hp x):OpD P o ts (rst hp (val (gev ts x) []).rs) (val (gev ts x) []) :=
 zcj λr D a W hR _ hlow hD=>by
  have:=evR hR (x:=x) (by rcases ho with h|h<;>simp [h,Op.operands]) hx hlow hD
  refine ⟨?_,this.2⟩
  rcases ho with h|h<;>simp [execOp,h,this.1]

theorem z2d {c x y:Operand} {b:Bool} (ho:o.op=.pick c x y) (hc:okX ts hp c) (hb:gev ts c=.bool b) (hx:b=true->okX ts hp x) (hy:b=false->okX ts hp y) :
  OpD P o ts (rst hp (val (if b then gev ts x else gev ts y) []).rs) (val (if b then gev ts x else gev ts y) []) :=
 zcj λr D a W hR _ hlow hD=>by
  have h1:=evR hR (x:=c) (by simp [ho,Op.operands]) hc hlow hD
  rw [hb] at h1
  have h1':a.eval c=.bool b:=h1.1
  cases b with
  | true =>
   have:=evR hR (x:=x) (by simp [ho,Op.operands]) (hx rfl) hlow hD
   exact ⟨by simp [execOp,ho,h1',asBool,this.1],this.2⟩
  | false =>
   have:=evR hR (x:=y) (by simp [ho,Op.operands]) (hy rfl) hlow hD
   exact ⟨by simp [execOp,ho,h1',asBool,this.1],this.2⟩

theorem zjt {b:Blk} {v:Value} (hids:zap (λk=>k=nk) v) (h:∀ r D a W,zqf o r D ts a->Sat r D (rst hp []) W->(∀ k,k<100->D k->r k=k)->(∀ k,dom (rst hp []) k->D k) ->
  (execOp a.eval o).run P W=.ok (.value (ren (λ_=>W.heap.size) v)) (W.alloc (b.obj r))/\b.ids D) :
  OpD P o ts (rst hp (Eff.mk v [] [] [(nk,b)] none false).rs) ⟨v,[],[],[(nk,b)],none,false⟩:=by
 intro r D a W hR hS _ hlow hD hns
 obtain ⟨h1,h2⟩:=h r D a W hR hS hlow hD
 have hnk:¬D nk:=(hns (nk,b) (by simp)).1
 have hr:∀ k,D k->upd r nk W.heap.size k=r k:=λk hk=>zaa _ _ (λe=>hnk (e▸hk))
 unfold zlj
 rw [h1]
 refine ⟨rfl,upd r nk W.heap.size,hr,(zc6 (D:=λk=>k=nk) (λk hk=>by subst hk;exact (zbg _ _ _).symm) hids),zcd (λk hk=>.inr (by simp [zab,hk])) hids,?_⟩
 refine ⟨rfl,rfl,rfl,by simp,λk hk _=>Below.heap_alloc _ _ _ hk,λp hp1=>?_,λp hp1=>?_,λp hp1 q hq1 _=>?_⟩
 ·simp only [List.nil_append,List.mem_singleton] at hp1;subst hp1
  refine ⟨?_,Blk.ids_mono (λk hk=>.inl hk) h2⟩
  simp only [zbg]
  rw [Blk.obj_congr hr h2]
  exact World.alloc_heap_new W _
 ·simp only [List.mem_singleton] at hp1;subst hp1;simp [zbg]
 ·simp only [List.mem_singleton] at hp1 hq1;rw [hp1,hq1]

theorem zw4 {b:Blk} (h:∀ r D a W,zqf o r D ts a->Sat r D (rst hp []) W->(∀ k,k<100->D k->r k=k)->(∀ k,dom (rst hp []) k->D k) ->
  (execOp a.eval o).run P W=.ok (.value (.pointer (some ⟨W.heap.size,0,none⟩))) (W.alloc (b.obj r))/\b.ids D) :
  OpD P o ts (rst hp (Eff.mk (zlv nk) [] [] [(nk,b)] none false).rs) ⟨zlv nk,[],[],[(nk,b)],none,false⟩ :=
 zjt (by simp [zlv,zap,zau,zaj,zal]) λr D a W hR hS hl hD=>by
  have:=h r D a W hR hS hl hD
  exact ⟨by rw [this.1];simp [zlv,ren,zas,zan,zao],this.2⟩

theorem zmi {T:TypeId} {v:Value} (W:World):(newVar T v).run P W=.ok ⟨W.heap.size,0,none⟩ (W.alloc (.cells v.cells T)):=by
 simp [newVar,newRow,newObj,Sem.run]

theorem zwy {T:TypeId} {z:Value} (ho:o.op=.alloc T) (hz:zbq P T=some z) (hc:za9 z=true) (hf:za0 z=true) :
  OpD P o ts (rst hp (Eff.mk (zlv nk) [] [] [(nk,⟨z.cells,T⟩)] none false).rs) ⟨zlv nk,[],[],[(nk,⟨z.cells,T⟩)],none,false⟩ :=
 zw4 λr D a W _ _ _ _=>by
  have h1:z.cells.map (zan r)=z.cells:=by rw [<-zgi (zcl hc),zax hf]
  refine ⟨?_,?_⟩
  ·simp [execOp,ho,Instr.alloc,zf4 hz,zmi,Blk.obj,h1]
  ·exact zgh (zcl hc) (zak hf)

theorem z79 {T:TypeId} {x:Operand} (ho:o.op=.box T x) (hx:okX ts hp x) (hc:za9 (gev ts x)=true) :
  OpD P o ts (rst hp (Eff.mk (zlv nk) [] [] [(nk,⟨(gev ts x).cells,T⟩)] none false).rs) ⟨zlv nk,[],[],[(nk,⟨(gev ts x).cells,T⟩)],none,false⟩ :=
 zw4 λr D a W hR _ hlow hD=>by
  have h1:=evR hR (x:=x) (by simp [ho,Op.operands]) hx hlow hD
  refine ⟨?_,zgh (zcl hc) h1.2⟩
  simp [execOp,ho,Instr.box,zmi,h1.1,zgi (zcl hc),Blk.obj]

theorem znm {k:Nat} {rs:List Nat} (h:k∈rs):rst hp rs k=hp k:=by simp [rst,h]

theorem z2c {T:TypeId} {x:Operand} {k off:Nat} {b:Blk} {v:Value} (ho:o.op=.load T x) (hx:okX ts hp x) (hg:gev ts x=.pointer (some ⟨k,off,none⟩)) (hb:hp k=some b) (hv:zds P T b off=some v) :
  OpD P o ts (rst hp (val v [k]).rs) (val v [k]) :=
 zcj λr D a W hR hS hlow hD=>by
  have h1:=evR hR (x:=x) (by simp [ho,Op.operands]) hx hlow hD
  rw [hg] at h1
  have h2:=hS k b (by rw [znm (by simp)];exact hb)
  have h3:a.eval x=.pointer (some ⟨r k,off,none⟩):=h1.1
  refine ⟨?_,zy9 hv h2.2⟩
  simp [execOp,ho,Instr.loadAt,Instr.sureAddr,h3,zil hv h2.1]

theorem zcr (W:World) (k:Nat) (ob:Obj):(W.putObj k ob).heap.size=W.heap.size:=by simp [World.putObj]

theorem zw7 {T:TypeId} {x y:Operand} {k off:Nat} {b:Blk} (ho:o.op=.store T x y) (hx:okX ts hp x) (hy:okX ts hp y) (hg:gev ts x=.pointer (some ⟨k,off,none⟩)) (hb:hp k=some b) (hown:b.T.own=true)
  (hc:za9 (gev ts y)=true) (hs:zaz P T=some (gev ts y).cells.size) (hle:off+(gev ts y).cells.size<=b.c.size) :
  OpD P o ts (rst hp (Eff.mk undef [k] [(k,⟨zct b.c off (gev ts y).cells.toList,b.T⟩)] [] none false).rs) ⟨undef,[k],[(k,⟨zct b.c off (gev ts y).cells.toList,b.T⟩)],[],none,false⟩:=by
 intro r D a W hR hS _ hlow hD _
 have h1:=evR hR (x:=x) (by simp [ho,Op.operands]) hx hlow hD
 have h1':=evR hR (x:=y) (by simp [ho,Op.operands]) hy hlow hD
 rw [hg] at h1
 have h2:=hS k b (by rw [znm (by simp)];exact hb)
 have h3:a.eval x=.pointer (some ⟨r k,off,none⟩):=h1.1
 obtain ⟨bc,bt⟩:=b
 cases bt with
 | raw _ _=>cases hown
 | mp=>cases hown
 | ty bt =>
 have hrun:=zjs (P:=P) (r:=r) (T:=T) hc hs hle h2.1
 have hlt:r k<W.heap.size:=(Array.getElem?_eq_some_iff.1 h2.1).1
 have:(execOp a.eval o).run P W=.ok .skip (W.putObj (r k) (.cells ((zct bc off (gev ts y).cells.toList).map (zan r)) bt (0,0))):=by
  simp [execOp,ho,Instr.storeAt,Instr.sureAddr,h3,h1'.1,hrun]
 unfold zlj
 rw [this]
 refine ⟨rfl,r,λ_ _=>rfl,(zcp r).symm,zdb _,?_⟩
 refine ⟨rfl,rfl,rfl,by rw [zcr];exact Nat.le_refl _,λj _ hn=>World.putObj_heap_other (λe=>hn _ (List.mem_singleton.2 rfl) e.symm),λp hp1=>?_,by simp,by simp⟩
 simp only [List.append_nil,List.mem_singleton] at hp1;subst hp1
 refine ⟨World.putObj_heap_same hlt,?_⟩
 simp only [zh0]
 exact zv5 (Q:=zaj D) _ (λz hz=>zgh (zcl hc) h1'.2 z (by simpa using hz)) _ _ h2.2

theorem zx1 {v:Value} (h:fnV v=true) (r:Nat->Nat):ren r v=zan r v:=by cases v<;>first|rfl|cases h
theorem zx0 {v:Value} (h:fnV v=true) {D:Nat->Prop}:zap D v↔zaj D v:=by cases v<;>first|exact Iff.rfl|cases h
theorem z9v {l:List (ByteArray×Value)} {x:Value} (h:x∈mpC l):(∃ s,x=.string s)\/∃ p∈l,x=p.2:=by
 simp only [mpC,List.mem_toArray,List.mem_flatMap,List.mem_cons,List.not_mem_nil,or_false] at h
 obtain ⟨p,hp,rfl|rfl⟩:=h
 ·exact .inl ⟨_,rfl⟩
 ·exact .inr ⟨p,hp,rfl⟩
theorem zi1 {l:List (ByteArray×Value)} {D:Nat->Prop}:(mpB l).ids D↔∀ p∈l,zaj D p.2:=by
 constructor
 ·intro h p hp
  refine h p.2 ?_
  simp only [mpB,mpC,List.mem_toArray,List.mem_flatMap]
  exact ⟨p,hp,by simp⟩
 ·intro h x hx
  rcases z9v hx with ⟨s,rfl⟩|⟨p,hp,rfl⟩
  ·trivial
  ·exact h p hp
theorem zon {s:ByteArray} {v:Value}:∀ {l:List (ByteArray×Value)},zda s l=some v->∃ p∈l,p.2=v
 | [],h=>by cases h
 | p::l,h=>by
  simp only [zda] at h
  split at h
  ·cases h;exact ⟨p,by simp,rfl⟩
  ·obtain ⟨q,hq,e⟩:=zon h
   exact ⟨q,List.mem_cons_of_mem _ hq,e⟩
theorem zqe {T:TypeId} {y:Option Operand} (ho:o.op=.makeMap T y) (hy:y.isNone=true):OpD P o ts (rst hp (Eff.mk (.map (some nk)) [] [] [(nk,mpB [])] none false).rs) ⟨.map (some nk),[],[],[(nk,mpB [])],none,false⟩ :=
 zjt (by simp [zap,zau,zaj,zal]) λr D a W _ _ _ _=>by
  obtain rfl:y=none:=by simpa using hy
  refine ⟨?_,zi1.2 (by simp)⟩
  rw [zq6]
  simp [execOp,ho,Instr.makeMap,newObj,Sem.run,ren,zas,zan,zao,zn0]
theorem zt8 {T:TypeId} {m k x:Operand} {q:Nat} {s:ByteArray} {l:List (ByteArray×Value)} (ho:o.op=.insert T m k x) (hm:okX ts hp m) (hk:okX ts hp k) (hx:okX ts hp x) (hT:zgz P T=true) (hf:fnV (gev ts x)=true) (hgm:gev ts m=.map (some q)) (hgk:gev ts k=.string s) (hb:hp q=some (mpB l)) (hn:zda s l=none) :
  OpD P o ts (rst hp (Eff.mk undef [q] [(q,mpB (l++[(s,gev ts x)]))] [] none false).rs) ⟨undef,[q],[(q,mpB (l++[(s,gev ts x)]))],[],none,false⟩:=by
 intro r D a W hR hS _ hlow hD _
 have h1:=evR hR (x:=m) (by simp [ho,Op.operands]) hm hlow hD
 have h2:=evR hR (x:=k) (by simp [ho,Op.operands]) hk hlow hD
 have h3:=evR hR (x:=x) (by simp [ho,Op.operands]) hx hlow hD
 rw [hgm] at h1
 rw [hgk] at h2
 have hs:=hS q _ (by rw [znm (by simp)];exact hb)
 have e1:a.eval m=.map (some (r q)):=h1.1
 have e2:a.eval k=.string s:=h2.1
 have hrun:=zv0 (P:=P) (T:=T) (x:=a.eval x) (v:=gev ts x) hT hs.1 hn (by rw [h3.1,zx1 hf])
 have hlt:r q<W.heap.size:=(Array.getElem?_eq_some_iff.1 hs.1).1
 have:(execOp a.eval o).run P W=.ok .skip (W.putObj (r q) ((mpB (l++[(s,gev ts x)])).obj r)):=by
  simp [execOp,ho,e1,e2,hrun]
 unfold zlj
 rw [this]
 refine ⟨rfl,r,λ_ _=>rfl,(zcp r).symm,zdb _,?_⟩
 refine ⟨rfl,rfl,rfl,by rw [zcr];exact Nat.le_refl _,λj _ hn=>World.putObj_heap_other (λe=>hn _ (List.mem_singleton.2 rfl) e.symm),λp hp1=>?_,by simp,by simp⟩
 simp only [List.append_nil,List.mem_singleton] at hp1;subst hp1
 refine ⟨World.putObj_heap_same hlt,?_⟩
 simp only [zh0]
 refine zi1.2 λp hp2=>?_
 rcases List.mem_append.1 hp2 with hp2|hp2
 ·exact zi1.1 hs.2 p hp2
 ·simp only [List.mem_singleton] at hp2
  subst hp2
  exact (zx0 hf).1 h3.2
theorem zt9 {T:TypeId} {m k:Operand} {q:Nat} {s:ByteArray} {l:List (ByteArray×Value)} {v:Value} (ho:o.op=.lookup T m k false) (hm:okX ts hp m) (hk:okX ts hp k) (hT:zgz P T=true) (hgm:gev ts m=.map (some q)) (hgk:gev ts k=.string s) (hb:hp q=some (mpB l)) (hn:zda s l=some v) (hf:fnV v=true) :
  OpD P o ts (rst hp (val v [q]).rs) (val v [q]) :=
 zcj λr D a W hR hS hlow hD=>by
  have h1:=evR hR (x:=m) (by simp [ho,Op.operands]) hm hlow hD
  have h2:=evR hR (x:=k) (by simp [ho,Op.operands]) hk hlow hD
  rw [hgm] at h1
  rw [hgk] at h2
  have hs:=hS q _ (by rw [znm (by simp)];exact hb)
  have e1:a.eval m=.map (some (r q)):=h1.1
  have e2:a.eval k=.string s:=h2.1
  have hrun:=zv1 (P:=P) (T:=T) hT hs.1 hn
  refine ⟨by simp [execOp,ho,e1,e2,hrun,zx1 hf],?_⟩
  obtain ⟨p,hp,rfl⟩:=zon hn
  exact (zx0 hf).2 (zi1.1 hs.2 p hp)
theorem zqd {x:Operand} {i:Nat} {vs:Array Value} {v:Value} (ho:o.op=.extract x i) (hx:okX ts hp x) (hg:gev ts x=.tuple vs) (hv:vs[i]? = some v) (hn:zd0 v=true) :
  OpD P o ts (rst hp (val v []).rs) (val v []) :=
 zcj λr D a W hR _ hlow hD=>by
  have h1:=evR hR (x:=x) (by simp [ho,Op.operands]) hx hlow hD
  rw [hg] at h1
  have h3:a.eval x=.tuple (vs.map (zas r)):=h1.1
  have h4:ren r v=zas r v:=by cases v<;>simp_all [zd0,ren]
  refine ⟨by simp [execOp,ho,Instr.extract,h3,hv,h4],?_⟩
  have:=h1.2 v (Array.mem_of_getElem? hv)
  cases v<;>simp_all [zd0,zap]

theorem zhv (k off m:Nat):(⟨k,off,none⟩:Addr).add m=⟨k,off+m,none⟩:=Addr.add_mid k off m

theorem zt6 {T e:TypeId} {x i:Operand} {kd:IntKind} {m:Int} {len k off s:Nat} (ho:o.op=.indexAddr T x i) (hx:okX ts hp x) (hi:okX ts hp i) (hgi:gev ts i=.int kd m)
  (hu:P.underlying T=some (.array len e)) (hg:gev ts x=.pointer (some ⟨k,off,none⟩)) (h0:0<=m) (hl:m<len) (hs:zaz P e=some s) :
  OpD P o ts (rst hp (val (.pointer (some ⟨k,off+m.toNat*s,none⟩)) []).rs) (val (.pointer (some ⟨k,off+m.toNat*s,none⟩)) []) :=
 zcj λr D a W hR _ hlow hD=>by
  have h1:=evR hR (x:=x) (by simp [ho,Op.operands]) hx hlow hD
  have h2:=evR hR (x:=i) (by simp [ho,Op.operands]) hi hlow hD
  rw [hg] at h1
  rw [hgi] at h2
  have h3:a.eval x=.pointer (some ⟨r k,off,none⟩):=h1.1
  have h4:a.eval i=.int kd m:=h2.1
  refine ⟨?_,h1.2⟩
  have hD':D k:=by simpa [zap,zau,zaj,zal] using h1.2
  simp [execOp,ho,Instr.indexAt,h3,h4,asIntOf,run_underlying hu,Instr.sureAddr,h0,hl,zb1 hs,zhv,ren,zas,zan,zao]

theorem zt7 {T e:TypeId} {x i:Operand} {kd:IntKind} {m:Int} {len cap k off s:Nat} (ho:o.op=.indexAddr T x i) (hx:okX ts hp x) (hi:okX ts hp i) (hgi:gev ts i=.int kd m)
  (hu:P.underlying T=some (.slice e)) (hg:gev ts x=.slice (some ⟨k,off,none⟩) len cap) (h0:0<=m) (hl:m<len) (hs:zaz P e=some s) :
  OpD P o ts (rst hp (val (.pointer (some ⟨k,off+m.toNat*s,none⟩)) []).rs) (val (.pointer (some ⟨k,off+m.toNat*s,none⟩)) []) :=
 zcj λr D a W hR _ hlow hD=>by
  have h1:=evR hR (x:=x) (by simp [ho,Op.operands]) hx hlow hD
  have h2:=evR hR (x:=i) (by simp [ho,Op.operands]) hi hlow hD
  rw [hg] at h1
  rw [hgi] at h2
  have h3:a.eval x=.slice (some ⟨r k,off,none⟩) len cap:=h1.1
  have h4:a.eval i=.int kd m:=h2.1
  refine ⟨?_,by simpa [zap,zau,zaj,zal] using h1.2⟩
  simp [execOp,ho,Instr.indexAt,h3,h4,asIntOf,run_underlying hu,h0,hl,zb1 hs,zhv,ren,zas,zan,zao]

theorem zn7 {fn:Fn} {first cap:Array Operand} (ho:o.op=.makeFunc fn first cap) (h1:∀ x∈first.toList,okX ts hp x/\zbs (gev ts x)=true) (h2:∀ x∈cap.toList,okX ts hp x/\zbs (gev ts x)=true) :
  OpD P o ts (rst hp (val (.func fn (first.map (gev ts)) (cap.map (gev ts))) []).rs) (val (.func fn (first.map (gev ts)) (cap.map (gev ts))) []) :=
 zcj λr D a W hR _ hlow hD=>by
  have e1:∀ x∈first,a.eval x=zao r (gev ts x)/\zal D (gev ts x):=λx hx=>by
   have h:=h1 x (by simpa using hx)
   have:=evR hR (x:=x) (by simp [ho,Op.operands,hx]) h.1 hlow hD
   exact ⟨by rw [this.1,zc8 h.2],(zcb h.2).1 this.2⟩
  have e2:∀ x∈cap,a.eval x=zao r (gev ts x)/\zal D (gev ts x):=λx hx=>by
   have h:=h2 x (by simpa using hx)
   have:=evR hR (x:=x) (by simp [ho,Op.operands,hx]) h.1 hlow hD
   exact ⟨by rw [this.1,zc8 h.2],(zcb h.2).1 this.2⟩
  refine ⟨?_,?_⟩
  ·simp only [execOp,ho,Instr.makeFunc,ren,zas,zan,Array.map_map]
   rw [Array.map_congr_left (g:=zao r∘gev ts) (λx hx=>(e1 x hx).1),Array.map_congr_left (g:=zao r∘gev ts) (λx hx=>(e2 x hx).1)]
   rfl
  ·refine ⟨λv hv=>?_,λv hv=>?_⟩
   ·obtain ⟨x,hx,rfl⟩:=Array.mem_map.1 hv;exact (e1 x hx).2
   ·obtain ⟨x,hx,rfl⟩:=Array.mem_map.1 hv;exact (e2 x hx).2

theorem zmt {v:Value} (hs:∀ cs b,o.op≠.select cs b) (h1:∀ x∈o.op.operands.toList,okX ts hp x/\za0 (gev ts x)=true) (hv:za0 v=true) (hr:∀ W,(execOp (gev ts) o).run P W=.ok (.value v) W) :
  OpD P o ts (rst hp (val v []).rs) (val v []) :=
 zcj λr D a W hR _ hlow hD=>by
  refine ⟨?_,zak hv⟩
  rw [zax hv,<-hr W]
  congr 1
  refine execOp_congr o hs λx hx=>?_
  have h:=h1 x (by simpa using hx)
  rw [(evR hR hx h.1 hlow hD).1,zax h.2]

theorem z2a {c:Call} {f:Operand} {g:FuncId} {first cap:Array Value} {v:Value} (hGF:zbm G) (hG:∀ k,k<100->hp k=G k) (ho:o.op=.call c) (hc:c.callee=.value f) (hf:okX ts hp f) (hgf:gev ts f=.func (.func g) first cap)
  (hfi:first.size=0) (hca:cap.size=0) (ha:∀ x∈c.args.toList,okX ts hp x) (hr:Ret P G g (c.args.map (gev ts)) v\/jhy P g (c.args.map (gev ts)) v):OpD P o ts (rst hp (val v []).rs) (val v []):=by
 intro r D a W hR hS _ hlow hD _
 have hfl:∀ x∈c.args.map (gev ts),za0 x=true:=hr.elim (λh=>h.2.1) (λh=>h.2.1)
 obtain rfl:first=#[]:=by cases first;simpa using hfi
 obtain rfl:cap=#[]:=by cases cap;simpa using hca
 have h1:=evR hR (x:=f) (by simp [ho,hc,Op.operands,Call.operands]) hf hlow hD
 rw [hgf] at h1
 have h3:a.eval f=.func (.func g) #[] #[]:=by rw [h1.1];simp [ren,zas,zan]
 have hargs:c.args.map a.eval=c.args.map (gev ts):=Array.map_congr_left λx hx=>by
  rw [(evR hR (x:=x) (by simp [ho,Op.operands,Call.operands,hx]) (ha x (by simpa using hx)) hlow hD).1]
  exact zax (hfl _ (Array.mem_map.2 ⟨x,hx,rfl⟩))
 rcases hr with hr|⟨hv,_,hen⟩
 rotate_left
 ·have hrun:(execOp a.eval o).run P W=.ok (.value v) W:=by
   simp [execOp,ho,resolve,hc,h3,Deferred.ofValue,invoke,hargs,hen]
  unfold zlj
  rw [hrun]
  exact ⟨rfl,r,λ_ _=>rfl,(zax hv).symm,zak hv,Turn.of_below (Below.refl _ _)⟩
 obtain ⟨hv,_,hen,hcall⟩:=hr
 have hrun:(execOp a.eval o).run P W=.ok (.enter g (c.args.map (gev ts))) W:=by
  simp [execOp,ho,resolve,hc,h3,Deferred.ofValue,invoke,hargs,hen]
 have hgok:GOK G W:=λk b hk=>by
  obtain ⟨hlt,hfl⟩:=hGF k b hk
  have hb:rst hp [] k=some b:=by simp [rst,hlt,hG k hlt,hk]
  have h2:=hS k b hb
  have hDk:D k:=hD k (by unfold dom;show rst hp [] k≠none;rw [hb];simp)
  rw [hlow k hlt hDk] at h2
  rw [h2.1]
  rw [Blk.obj_flat (λx hx=>hfl x hx)]
 unfold zlj
 rw [hrun]
 refine (hcall W hgok).mono λe W'' ⟨he,hb⟩=>?_
 subst he
 exact ⟨rfl,r,λ_ _=>rfl,(zax hv).symm,zak hv,Turn.of_below hb⟩

theorem zx4 {r:Nat->Nat} {D:Nat->Prop} {W:World} {rs:List Nat} (hGF:zbm G) (hG:∀ k,k<100->hp k=G k) (hS:Sat r D (rst hp rs) W) (hlow:∀ k,k<100->D k->r k=k) (hD:∀ k,dom (rst hp rs) k->D k):GOK G W:=λk b hk=>by
 obtain ⟨hlt,hfl⟩:=hGF k b hk
 have hb:rst hp rs k=some b:=by simp [rst,hlt,hG k hlt,hk]
 have h2:=hS k b hb
 have hDk:D k:=hD k (by unfold dom;rw [hb];simp)
 rw [hlow k hlt hDk] at h2
 rw [h2.1]
 rw [Blk.obj_flat (λx hx=>hfl x hx)]

theorem zne {x:Operand} (h:okT ts x):okX ts hp x:=by cases x<;>first|exact h|exact h.elim

theorem z8a {c:Call} {f:Operand} {g:FuncId} {first cap:Array Value} {rs:List Nat} {res:Res} (hGF:zbm G) (hG:∀ k,k<100->hp k=G k) (ho:o.op=.call c) (hc:c.callee=.value f) (hf:okT ts f) (hgf:gev ts f=.func (.func g) first cap)
  (hfi:first.size=0) (hcp:cap.all zbs=true) (ha:∀ x∈c.args.toList,okX ts hp x) (hr:Fun P G g (c.args.map (gev ts)++cap) hp rs res):OpD P o ts (rst hp (res.eff rs).rs) (res.eff rs):=by
 have ers:(res.eff rs).rs=rs:=by cases res<;>rfl
 rw [ers]
 intro r D a W hR hS hinj hlow hD hnsD
 obtain rfl:first=#[]:=by cases first;simpa using hfi
 have hD':∀ k,k<100->dom hp k->D k:=λk hk hd=>hD k (by unfold dom rst at *;simp [hk,hd])
 have h1:=ev hR (x:=f) (by simp [ho,hc,Op.operands,Call.operands]) (zne (hp:=hp) hf) hlow hD'
 rw [hgf] at h1
 have h3:a.eval f=.func (.func g) #[] (cap.map (zao r)):=by rw [h1.1];simp [ren,zas,zan]
 have hargs:c.args.map a.eval=(c.args.map (gev ts)).map (ren r):=by
  rw [Array.map_map]
  exact Array.map_congr_left λx hx=>(ev hR (x:=x) (by simp [ho,Op.operands,Call.operands,hx]) (ha x (by simpa using hx)) hlow hD').1
 have hrun:(execOp a.eval o).run P W=.ok (.enter g ((c.args.map (gev ts)).map (ren r)++cap.map (zao r))) W:=by
  simp [execOp,ho,resolve,hc,h3,Deferred.ofValue,invoke,hargs,hr.enter]
 have hS':Sat r (dom (rst hp rs)) (rst hp rs) W:=λk b hk=>⟨(hS k b hk).1,hr.closed k b hk⟩
 have hcall:=hr.run r W (zx4 hGF hG hS hlow hD) hS' (λk l hk hl=>hinj k l (hD k hk) (hD l hl)) (λk hk hd=>hlow k hk (hD k hd))
 have hcap:∀ x∈cap,ren r x=zao r x:=λx hx=>zc8 (Array.all_eq_true_iff_forall_mem.1 hcp x hx)
 have e2:(c.args.map (gev ts)).map (ren r)++cap.map (zao r)=(c.args.map (gev ts)++cap).map (ren r):=by
  rw [Array.map_append];congr 1;exact Array.map_congr_left λx hx=>(hcap x hx).symm
 unfold zlj
 rw [hrun]
 dsimp only
 rw [e2]
 refine hcall.mono λe W'' he=>?_
 cases res with
 | ret v ws =>
  obtain ⟨rfl,ht⟩:=he
  refine ⟨rfl,r,λ_ _=>rfl,rfl,zcd (λk hk=>.inl (hD k hk)) hr.fits.1,{ ht with has:=λp hp1=>⟨(ht.has p hp1).1,Blk.ids_mono (λk hk=>hk.imp (hD k) id) (ht.has p hp1).2⟩ }⟩
 | pan v =>
  obtain ⟨rfl,hb⟩:=he
  exact ⟨v,rfl,rfl,hb⟩
 | new v ns =>
  have hns:∀ k∈zab ns,¬D k:=λk hk=>by
   obtain ⟨p,hp1,rfl⟩:=zah.1 hk
   exact (hnsD p hp1).1
  obtain ⟨r1,h1,rfl,ht⟩:=he (λk hk hd=>hns k hk (hD k hd))
  let r2:Nat->Nat:=λk=>if k∈zab ns then r1 k else r k
  have e1:∀ k,zc7 (dom (rst hp rs)) ns k->r2 k=r1 k:=λk hk=>by
   by_cases h:k∈zab ns
   ·simp [r2,h]
   ·have hk':=hk.resolve_right h
    simp only [r2,h,if_false]
    exact (h1 k hk').symm
  have e2:∀ k,D k->r2 k=r k:=λk hk=>by simp only [r2,if_neg (λh=>hns k h hk)]
  have e3:∀ p∈ns,r2 p.1=r1 p.1:=λp hp1=>e1 _ (.inr (zah.2 ⟨p,hp1,rfl⟩))
  refine ⟨rfl,r2,e2,(zc6 e1 hr.fits.1).symm,zcd (λk hk=>hk.imp (hD k) id) hr.fits.1,ht.os,ht.tape,ht.output,ht.size,λk hk _=>ht.same k hk (by simp),λp hp1=>?_,λp hp1=>by rw [e3 p hp1];exact ht.fresh p hp1,λp hp1 q hq1 h=>ht.apart p hp1 q hq1 (by rw [<-e3 p hp1,<-e3 q hq1];exact h)⟩
  have hp1:p∈ns:=by simpa [Res.eff] using hp1
  have hh:=ht.has p (by simpa using hp1)
  rw [e3 p hp1,Blk.obj_congr e1 hh.2]
  exact ⟨hh.1,Blk.ids_mono (λk hk=>hk.imp (hD k) id) hh.2⟩


theorem zh3 (f:Value->Value) (off:Nat):∀ (l:List (Value×Nat)) (cs:Array Value),
  (l.map λp=>(f p.1,p.2)).foldl (λcs (p:Value×Nat)=>cs.setIfInBounds (off+p.2) p.1) (cs.map f)=(l.foldl (λcs (p:Value×Nat)=>cs.setIfInBounds (off+p.2) p.1) cs).map f
 | [],cs=>rfl
 | p::l,cs=>by
  simp only [List.map_cons,List.foldl_cons]
  rw [<-Array.map_setIfInBounds,zh3 f off l]
theorem zh4 {Q:Value->Prop} (off:Nat):∀ (l:List (Value×Nat)) (cs:Array Value),(∀ p∈l,Q p.1)->(∀ x∈cs,Q x)->∀ x∈l.foldl (λcs (p:Value×Nat)=>cs.setIfInBounds (off+p.2) p.1) cs,Q x
 | [],_,_,h=>h
 | p::l,cs,hl,h=>by
  simp only [List.foldl_cons]
  refine zh4 off l _ (λq hq=>hl q (List.mem_cons_of_mem _ hq)) (λx hx=>?_)
  rcases Array.mem_or_eq_of_mem_setIfInBounds hx with h'|h'
  ·exact h x h'
  ·exact h'▸hl p (by simp)
theorem ziq (off:Nat) (vs cs:Array Value):vs.zipIdx.foldl (λcs (c,j)=>cs.setIfInBounds (off+j) c) cs=vs.toList.zipIdx.foldl (λcs (p:Value×Nat)=>cs.setIfInBounds (off+p.2) p.1) cs:=by
 rw [<-Array.foldl_toList,Array.toList_zipIdx]

theorem zjx {r:Nat->Nat} {pl:Nat->Option (Nat×Nat)}:∀ (parts:List (Nat×Value)) (cells cs:Array Value),(∀ p∈parts,za9 p.2=true)->Instr.fill pl cells parts=some cs ->
  Instr.fill pl (cells.map (zan r)) (parts.map λp=>(p.1,ren r p.2))=some (cs.map (zan r))
 | [],cells,cs,_,h=>by simp only [Instr.fill,Option.some.injEq] at h;subst h;rfl
 | (i,v)::rest,cells,cs,hp,h=>by
  simp only [Instr.fill,List.map_cons] at h |-
  cases hpl:pl i with
  | none=>simp [hpl] at h
  | some os =>
   obtain ⟨off,size⟩:=os
   simp only [hpl] at h |-
   have hc:=zgi (r:=r) (zcl (hp (i,v) (by simp)))
   rw [hc]
   simp only [Array.size_map]
   split at h
   ·cases h
   ·rename_i hn
    rw [if_neg hn]
    have:=zjx (r:=r) rest _ cs (λp hp'=>hp p (List.mem_cons_of_mem _ hp')) h
    rw [<-this]
    congr 1
    rw [ziq,ziq,<-zh3]
    congr 1
    simp [List.zipIdx_map]

theorem zjw {D:Nat->Prop} {pl:Nat->Option (Nat×Nat)}:∀ (parts:List (Nat×Value)) (cells cs:Array Value),(∀ p∈parts,za9 p.2=true/\zap D p.2)->(∀ x∈cells,zaj D x)->Instr.fill pl cells parts=some cs->∀ x∈cs,zaj D x
 | [],cells,cs,_,hc,h=>by simp only [Instr.fill,Option.some.injEq] at h;subst h;exact hc
 | (i,v)::rest,cells,cs,hp,hc,h=>by
  simp only [Instr.fill] at h
  cases hpl:pl i with
  | none=>simp [hpl] at h
  | some os =>
   obtain ⟨off,size⟩:=os
   simp only [hpl] at h
   split at h
   ·cases h
   ·refine zjw rest _ cs (λp hp'=>hp p (List.mem_cons_of_mem _ hp')) ?_ h
    rw [ziq]
    have h0:=hp (i,v) (by simp)
    refine zh4 off _ _ (λq hq=>?_) hc
    have:q.1∈v.cells.toList:=by
     have:=List.mem_zipIdx' (x:=q.1) (i:=q.2) (by simpa using hq)
     rw [this.2];exact List.getElem_mem _
    exact zgh (zcl h0.1) h0.2 _ (by simpa using this)

theorem zxh {r:Nat->Nat} {T:TypeId} {parts:List (Nat×Value)} {cs:Array Value} {z:Value} (hz:zbq P T=some z) (hzc:za9 z=true) (hzf:za0 z=true) (hp:∀ p∈parts,za9 p.2=true)
  (h:P.built T parts=some cs):P.built T (parts.map λp=>(p.1,ren r p.2))=some (cs.map (zan r)):=by
 have hzm:z.cells.map (zan r)=z.cells:=by rw [<-zgi (zcl hzc),zax hzf]
 unfold Program.built at h |-
 unfold zbq at hz
 cases hi:P.info? T with
 | none=>simp [hi] at hz
 | some it =>
  simp [hi] at hz
  simp only [hi] at h |-
  cases hu:P.underlying T with
  | none=>simp [hu] at h
  | some dd =>
   cases dd<;>try (simp [hu] at h;done)
   case array n e =>
    simp only [hu,hz] at h |-
    cases hie:P.info? e with
    | none=>simp [hie] at h
    | some ie =>
     simp only [hie] at h |-
     rw [<-hzm]
     exact zjx _ _ _ hp h
   case struct fs =>
    simp only [hu,hz] at h |-
    cases hm:fs.toList.mapM (λf=>(P.info? f.type).map λi=>(f.offset,i.size)) with
    | none=>simp [hm] at h
    | some pl =>
     simp only [hm] at h |-
     rw [<-hzm]
     exact zjx _ _ _ hp h

theorem zxg {D:Nat->Prop} {T:TypeId} {parts:List (Nat×Value)} {cs:Array Value} {z:Value} (hz:zbq P T=some z) (hzc:za9 z=true) (hzf:za0 z=true) (hp:∀ p∈parts,za9 p.2=true/\zap D p.2)
  (h:P.built T parts=some cs):∀ x∈cs,zaj D x:=by
 have hzi:∀ x∈z.cells,zaj D x:=zgh (zcl hzc) (zak hzf)
 unfold Program.built at h
 unfold zbq at hz
 cases hi:P.info? T with
 | none=>simp [hi] at hz
 | some it =>
  simp [hi] at hz
  simp only [hi] at h
  cases hu:P.underlying T with
  | none=>simp [hu] at h
  | some dd =>
   cases dd<;>try (simp [hu] at h;done)
   case array n e =>
    simp only [hu,hz] at h
    cases hie:P.info? e with
    | none=>simp [hie] at h
    | some ie =>
     simp only [hie] at h
     exact zjw _ _ _ hp hzi h
   case struct fs =>
    simp only [hu,hz] at h
    cases hm:fs.toList.mapM (λf=>(P.info? f.type).map λi=>(f.offset,i.size)) with
    | none=>simp [hm] at h
    | some pl =>
     simp only [hm] at h
     exact zjw _ _ _ hp hzi h

theorem zwz {T:TypeId} {parts:Array (Nat×Operand)} {z:Value} {cs:Array Value} (ho:o.op=.build T parts) (h1:∀ p∈parts.toList,okX ts hp p.2/\za9 (gev ts p.2)=true)
  (hz:zbq P T=some z) (hzc:za9 z=true) (hzf:za0 z=true) (hcs:P.built T (zek ts parts)=some cs):OpD P o ts (rst hp (val (.agg cs) []).rs) (val (.agg cs) []) :=
 zcj λr D a W hR _ hlow hD=>by
  have e1:∀ p∈parts.toList,a.eval p.2=ren r (gev ts p.2)/\zap D (gev ts p.2):=λp hp1 =>
   evR hR (x:=p.2) (by
    simp only [ho,Op.operands]
    simp only [List.mem_toArray,List.mem_map]
    exact ⟨p,hp1,rfl⟩) (h1 p hp1).1 hlow hD
  have e2:(parts.map λ(i,x)=>(i,a.eval x)).toList=(zek ts parts).map λp=>(p.1,ren r p.2):=by
   simp only [Array.toList_map,zek,List.map_map]
   refine List.map_congr_left λp hp1=>?_
   simp only [Function.comp]
   rw [(e1 p hp1).1]
  have h3:=zxh (r:=r) hz hzc hzf (λp hp1=>by
   simp only [zek,List.mem_map] at hp1
   obtain ⟨q,hq,rfl⟩:=hp1
   exact (h1 q hq).2) hcs
  rw [<-e2] at h3
  refine ⟨?_,zxg (D:=D) hz hzc hzf (λp hp1=>?_) hcs⟩
  ·simp only [execOp,ho,Sem.run_bind,run_build W T _ _ h3,Result.andThen_ok,Sem.run_pure,ren,zas]
  ·simp only [zek,List.mem_map] at hp1
   obtain ⟨q,hq,rfl⟩:=hp1
   exact ⟨(h1 q hq).2,(e1 q hq).2⟩

theorem zjm (off:Nat):∀ (l:List Value) (j:Nat) (cs:Array Value),(l.zipIdx j).foldl (λcs (p:Value×Nat)=>cs.setIfInBounds (off+p.2) p.1) cs=zct cs (off+j) l
 | [],_,_=>rfl
 | v::l,j,cs=>by
  simp only [List.zipIdx_cons,List.foldl_cons,zct]
  rw [zjm off l (j+1)]
  rfl
theorem zkg {pl:List (Nat×Nat) ⊕ Nat}:∀ (parts:List (Nat×Value)) (cells cs:Array Value),zgl pl cells parts=some cs->Instr.fill (z4j pl) cells parts=some cs
 | [],_,_,h=>h
 | (i,v)::rest,cells,cs,h=>by
  simp only [zgl] at h
  simp only [Instr.fill]
  cases hpl:z4j pl i with
  | none=>simp [hpl] at h
  | some os =>
   obtain ⟨off,size⟩:=os
   simp only [hpl] at h |-
   split at h
   ·rename_i hc
    rw [if_neg (by simp [hc.1];rw [<-hc.1];exact hc.2),ziq]
    have:=zjm off v.cells.toList 0 cells
    rw [this]
    exact zkg rest _ cs h
   ·cases h
theorem zlc {T:TypeId} {z:Value} {pl:List (Nat×Nat) ⊕ Nat} {parts:List (Nat×Value)} {cs:Array Value} (hz:zbq P T=some z) (hpl:zcn P T=some pl) (h:zgl pl z.cells parts=some cs):P.built T parts=some cs:=by
 have h:=zkg _ _ _ h
 unfold zbq at hz
 unfold zcn at hpl
 unfold Program.built
 cases hi:P.info? T with
 | none=>simp [hi] at hz
 | some it =>
  have hz':it.zero=some z:=by simpa [hi] using hz
  cases hu:P.underlying T with
  | none=>simp [hu] at hpl
  | some dd =>
   cases dd<;>try (simp [hu] at hpl;done)
   case array n e =>
    simp only [hu] at hpl |-
    unfold zaz at hpl
    cases hie:P.info? e with
    | none=>simp [hie] at hpl
    | some ie =>
     simp [hie] at hpl
     subst hpl
     simp only [hz']
     exact h
   case struct fs =>
    simp only [hu] at hpl |-
    cases hm:fs.toList.mapM (λf=>(P.info? f.type).map λi=>(f.offset,i.size)) with
    | none=>simp [hm] at hpl
    | some l =>
     simp [hm] at hpl
     subst hpl
     simp only [hz']
     have:(λx=>l.toArray[x]?)=z4j (.inl l):=by funext x;simp [z4j]
     rw [this]
     exact h

theorem zw2 {T:TypeId} {x:Operand} {dd:TypeDesc} (ho:o.op=.makeInterface T x) (hx:okX ts hp x) (h1:zbs (gev ts x)=true) (hu:P.underlying T=some dd) (hn:∀ ms,dd≠.interface ms) :
  OpD P o ts (rst hp (val (.iface T (gev ts x)) []).rs) (val (.iface T (gev ts x)) []) :=
 zcj λr D a W hR _ hlow hD=>by
  have:=evR hR (x:=x) (by simp [ho,Op.operands]) hx hlow hD
  refine ⟨?_,(zcb h1).1 this.2⟩
  simp only [execOp,ho,Instr.makeInterface,Sem.run_bind,run_underlying hu,Result.andThen_ok]
  rw [this.1,zc8 h1]
  cases dd<;>first
   | exact absurd rfl (hn _)
   | simp [ren,zas,zan]

theorem zol:∀ (xs ys:List Value) (r:Bool),zwj xs ys=some r->(∀ x∈xs,zbj x=true)/\(∀ y∈ys,zbj y=true)
 | [],[],_,_=>⟨by simp,by simp⟩
 | .int k a::xs,.int k' b::ys,r,h=>by
  simp only [zwj] at h
  split at h
  ·split at h
   ·rename_i q hq
    have:=zol xs ys q hq
    exact ⟨by simpa [zbj,zho] using this.1,by simpa [zbj,zho] using this.2⟩
   ·cases h
  ·cases h

theorem z2p {op:BinOp} {T:TypeId} {x y v:Value} (r:Nat->Nat) (h:znz P op T x y=some v):znz P op T (ren r x) (ren r y)=some v:=by
 have key:∀ {xs ys:Array Value} {q:Bool},z2f P T xs ys=some q->za0 (.agg xs)=true/\za0 (.agg ys)=true:=λ{xs ys q} h=>by
  unfold z2f zua at h
  split at h
  ·unfold z2m at h
   split at h
   ·split at h
    ·have:=zol _ _ _ h
     exact ⟨Array.all_eq_true_iff_forall_mem.2 (λx hx=>this.1 x (by simpa using hx)),Array.all_eq_true_iff_forall_mem.2 (λx hx=>this.2 x (by simpa using hx))⟩
    ·cases h
   ·cases h
  ·split at h
   ·split at h
    ·rename_i hf
     simp only [Bool.and_eq_true] at hf
     exact hf
    ·cases h
   ·cases h
 have h0:=h
 unfold znz at h
 split at h
 ·exact h0
 ·exact h0
 ·split at h
  ·split at h
   ·rename_i q hq;rw [zax (key hq).1,zax (key hq).2];exact h0
   ·cases h
  ·split at h
   ·rename_i q hq;rw [zax (key hq).1,zax (key hq).2];exact h0
   ·cases h
  ·cases h
 ·rename_i p l c
  cases p with
  | none=>exact h0
  | some a=>exact h0
 ·cases h

theorem z78 {op:BinOp} {T yT:TypeId} {x y:Operand} {v:Value} (ho:o.op=.binOp op T x y yT) (hx:okX ts hp x) (hy:okX ts hp y) (hv:znz P op T (gev ts x) (gev ts y)=some v) :
  OpD P o ts (rst hp (val v []).rs) (val v []) :=
 zcj λr D a W hR _ hlow hD=>by
  have h1:=evR hR (x:=x) (by simp [ho,Op.operands]) hx hlow hD
  have h2:=evR hR (x:=y) (by simp [ho,Op.operands]) hy hlow hD
  have hs:=zuc (ox:=x) (oy:=y) (z2p r hv) W
  refine ⟨?_,zak hs.2⟩
  rw [zax hs.2]
  have:=hs.1
  simp only [execOp,ho,h1.1,h2.1]
  rw [Sem.run_bind,this]
  rfl

theorem z47 {op:UnOp} {x v:Value} (h:un1 op x=some v):za0 x=true:=by
 unfold un1 at h;split at h<;>first|rfl|cases h

theorem jdn {op:UnOp} {T:TypeId} {x:Operand} {v:Value} (ho:o.op=.unOp op T x) (hx:okX ts hp x) (hv:un1 op (gev ts x)=some v):OpD P o ts (rst hp (val v []).rs) (val v []) :=
 zcj λr D a W hR _ hlow hD=>by
  have h1:=evR hR (x:=x) (by simp [ho,Op.operands]) hx hlow hD
  have hs:=z08 (P:=P) hv W
  rw [zax (z47 hv)] at h1
  refine ⟨?_,zak hs.2⟩
  rw [zax hs.2]
  simp only [execOp,ho,h1.1]
  rw [Sem.run_bind,hs.1]
  rfl

theorem zum {S T:TypeId} {x v:Value} (h:zm0 P S T x=some v):za0 x=true:=by
 unfold zm0 at h;split at h<;>first|rfl|cases h

theorem z2b {S T:TypeId} {x:Operand} {v:Value} (ho:o.op=.convert S T x) (hx:okX ts hp x) (hv:zm0 P S T (gev ts x)=some v):OpD P o ts (rst hp (val v []).rs) (val v []) :=
 zcj λr D a W hR _ hlow hD=>by
  have h1:=evR hR (x:=x) (by simp [ho,Op.operands]) hx hlow hD
  have hs:=zqp hv W
  rw [zax (zum hv)] at h1
  refine ⟨?_,zak hs.2⟩
  rw [zax hs.2]
  simp only [execOp,ho,h1.1]
  rw [Sem.run_bind,hs.1]
  rfl

theorem zlb {T e:TypeId} {len m:Nat} {parts:Array (Nat×Operand)} {z:Value} {cs:Array Value} (ho:o.op=.buildSlice T len parts) (h0:∀ p∈parts.toList,okX ts hp p.2/\za9 (gev ts p.2)=true)
  (hu:P.underlying T=some (.slice e)) (hm:zaz P e=some m) (hz:zbq P e=some z) (hzc:za9 z=true) (hzf:za0 z=true) (hpos:0<len*m) (hle:len*m<=16777216)
  (hcs:zgl (.inr m) ((Array.range (len*m)).map (z.cells[·%z.cells.size]!)) (zek ts parts)=some cs) :
  OpD P o ts (rst hp (Eff.mk (.slice (some ⟨nk,0,none⟩) len len) [] [] [(nk,⟨cs,e⟩)] none false).rs) ⟨.slice (some ⟨nk,0,none⟩) len len,[],[],[(nk,⟨cs,e⟩)],none,false⟩ :=
 zjt (by simp [zap,zau,zaj,zal]) λr D a W hR _ hlow hD=>by
  have e1:∀ p∈parts.toList,a.eval p.2=ren r (gev ts p.2)/\zap D (gev ts p.2):=λp hp1 =>
   evR hR (x:=p.2) (by
    simp only [ho,Op.operands]
    simp only [List.mem_toArray,List.mem_map]
    exact ⟨p,hp1,rfl⟩) (h0 p hp1).1 hlow hD
  have e2:(parts.map λ(i,x)=>(i,a.eval x)).toList=(zek ts parts).map λp=>(p.1,ren r p.2):=by
   simp only [Array.toList_map,zek,List.map_map]
   refine List.map_congr_left λp hp1=>?_
   simp only [Function.comp]
   rw [(e1 p hp1).1]
  have hzi:∀ x∈z.cells,zbj x=true:=λx hx=>by
   cases z with
   | tuple vs=>exact absurd rfl (zcl hzc vs)
   | agg cs'=>exact Array.all_eq_true_iff_forall_mem.1 hzf x hx
   | _=>simp only [Value.cells] at hx;simp at hx;subst hx;exact hzf
  have hbase:∀ x∈(Array.range (len*m)).map (z.cells[·%z.cells.size]!),zbj x=true:=λx hx=>by
   obtain ⟨j,_,rfl⟩:=Array.mem_map.1 hx
   by_cases hlt:j%z.cells.size<z.cells.size
   ·rw [getElem!_pos z.cells _ hlt];exact hzi _ (Array.getElem_mem hlt)
   ·rw [getElem!_neg z.cells _ hlt];rfl
  have hb2:((Array.range (len*m)).map (z.cells[·%z.cells.size]!)).map (zan r)=(Array.range (len*m)).map (z.cells[·%z.cells.size]!):=zbn λx hx=>zcc (hbase x hx)
  have hf:=zkg _ _ _ hcs
  have hparts:∀ p∈zek ts parts,za9 p.2=true/\zap D p.2:=λp hp1=>by
   simp only [zek,List.mem_map] at hp1
   obtain ⟨q,hq,rfl⟩:=hp1
   exact ⟨(h0 q hq).2,(e1 q hq).2⟩
  have hfr:=zjx (r:=r) _ _ _ (λp hp1=>(hparts p hp1).1) hf
  rw [hb2,<-e2] at hfr
  refine ⟨?_,zjw (D:=D) _ _ _ hparts (λx hx=>zdw (hbase x hx)) hf⟩
  have hne:¬len*m=0:=by omega
  have hle':¬len*m>2^24:=by omega
  simp only [execOp,ho,Instr.buildSlice,Sem.run_bind,run_underlying hu,Result.andThen_ok,zb1 hm,hne,hle',if_false,zf4 hz,Sem.run_pure]
  have:z4j (.inr m)=λi=>some (i*m,m):=rfl
  rw [this] at hfr
  rw [hfr]
  simp [newRow,newObj,Sem.run,ren,zas,zan,zao,Blk.obj]

theorem ztq {r:Nat->Nat} {T:TypeId} {cs:Array Value} {off:Nat} {v:Value} (h:zc3 P T cs off=some v) (W:World):(part T (cs.map (zan r)) off).run P W=.ok (ren r v) W:=by
 unfold zc3 at h
 unfold part
 cases ha:zhg P T with
 | none=>simp [ha] at h
 | some bb =>
  rw [Sem.run_bind,zfv ha]
  simp only [Result.andThen_ok]
  cases bb with
  | true =>
   simp only [ha] at h
   cases hs:zaz P T with
   | none=>simp [hs] at h
   | some m =>
    simp only [hs] at h
    split at h
    ·cases h
     simp [Sem.run_bind,zb1 hs,ren,zas]
    ·simp at h
  | false =>
   simp only [ha] at h
   cases hc:cs[off]? with
   | none=>simp [hc] at h
   | some u =>
    simp only [hc] at h
    split at h
    ·rename_i hsc
     cases h
     simp [hc,ztn hsc]
    ·cases h

theorem zst {T:TypeId} {f:Nat} {t:TypeId} {off:Nat} (h:fdX P T f=some (t,off)):∃ fs fd,P.underlying T=some (.struct fs)/\fs[f]? = some fd/\fd.type=t/\fd.offset=off/\∃ m,zaz P fd.type=some (m+1):=by
 unfold fdX at h
 split at h
 ·rename_i fs hu
  split at h
  ·rename_i fd hf
   split at h
   ·rename_i m hs
    cases h
    exact ⟨fs,fd,hu,hf,rfl,rfl,m,hs⟩
   ·cases h
  ·cases h
 ·cases h

theorem zw3 {T e:TypeId} {x i:Operand} {kd:IntKind} {m:Int} {len s:Nat} {cs:Array Value} {v:Value} (ho:o.op=.index T x i) (hx:okX ts hp x) (hi:okX ts hp i) (hgi:gev ts i=.int kd m)
  (hu:P.underlying T=some (.array len e)) (hg:gev ts x=.agg cs) (h0:0<=m) (hl:m<len) (hs:zaz P e=some s) (hv:zc3 P e cs (m.toNat*s)=some v) :
  OpD P o ts (rst hp (val v []).rs) (val v []) :=
 zcj λr D a W hR _ hlow hD=>by
  have h1:=evR hR (x:=x) (by simp [ho,Op.operands]) hx hlow hD
  have h2:=evR hR (x:=i) (by simp [ho,Op.operands]) hi hlow hD
  rw [hg] at h1
  rw [hgi] at h2
  have h3:a.eval x=.agg (cs.map (zan r)):=h1.1
  have h4:a.eval i=.int kd m:=h2.1
  refine ⟨?_,zkp hv h1.2⟩
  have:=ztq (r:=r) hv W
  simp [execOp,ho,Instr.index,h3,h4,asIntOf,run_underlying hu,h0,hl,zb1 hs,this]

theorem zn6 {T:TypeId} {x i:Operand} {kd:IntKind} {m:Int} {s:ByteArray} {b:UInt8} (ho:o.op=.index T x i) (hx:okX ts hp x) (hi:okX ts hp i) (hgi:gev ts i=.int kd m)
  (hu:P.underlying T=some .string) (hg:gev ts x=.string s) (hb:(if 0<=m then s[m.toNat]? else none)=some b) :
  OpD P o ts (rst hp (val (.int .u8 b.toNat) []).rs) (val (.int .u8 b.toNat) []) :=
 zcj λr D a W hR _ hlow hD=>by
  have h1:=evR hR (x:=x) (by simp [ho,Op.operands]) hx hlow hD
  have h2:=evR hR (x:=i) (by simp [ho,Op.operands]) hi hlow hD
  rw [hg] at h1
  rw [hgi] at h2
  have h3:a.eval x=.string s:=h1.1
  have h4:a.eval i=.int kd m:=h2.1
  refine ⟨?_,trivial⟩
  simp [execOp,ho,Instr.index,h3,h4,asIntOf,run_underlying hu,hb,ren,zas,zan,zao]

theorem zw1 {T t:TypeId} {x:Operand} {f off:Nat} {cs:Array Value} {v:Value} (ho:o.op=.field T x f) (hx:okX ts hp x) (hf:fdX P T f=some (t,off)) (hg:gev ts x=.agg cs) (hv:zc3 P t cs off=some v) :
  OpD P o ts (rst hp (val v []).rs) (val v []) :=
 zcj λr D a W hR _ hlow hD=>by
  have h1:=evR hR (x:=x) (by simp [ho,Op.operands]) hx hlow hD
  rw [hg] at h1
  obtain ⟨fs,fd,hu,hfd,rfl,rfl,_⟩:=zst hf
  have h3:a.eval x=.agg (cs.map (zan r)):=h1.1
  refine ⟨?_,zkp hv h1.2⟩
  have:=ztq (r:=r) hv W
  simp [execOp,ho,Instr.field,h3,asAgg,run_underlying hu,hfd,this]

theorem zmr {T t:TypeId} {x:Operand} {f off k oo:Nat} (ho:o.op=.fieldAddr T x f) (hx:okX ts hp x) (hf:fdX P T f=some (t,off)) (hg:gev ts x=.pointer (some ⟨k,oo,none⟩)) :
  OpD P o ts (rst hp (val (.pointer (some ⟨k,oo+off,none⟩)) []).rs) (val (.pointer (some ⟨k,oo+off,none⟩)) []) :=
 zcj λr D a W hR _ hlow hD=>by
  have h1:=evR hR (x:=x) (by simp [ho,Op.operands]) hx hlow hD
  rw [hg] at h1
  obtain ⟨fs,fd,hu,hfd,rfl,rfl,m,hs⟩:=zst hf
  have h3:a.eval x=.pointer (some ⟨r k,oo,none⟩):=h1.1
  refine ⟨?_,by simpa [zap,zau,zaj,zal] using h1.2⟩
  simp [execOp,ho,Instr.fieldAt,h3,Instr.sureAddr,run_underlying hu,hfd,fieldPlace,zb1 hs,zhv,ren,zas,zan,zao]

theorem zn8 {x:Operand} {k oo:Nat} (ho:o.op=.nilCheck x) (hx:okX ts hp x) (hg:gev ts x=.pointer (some ⟨k,oo,none⟩)) :
  OpD P o ts (rst hp (val (.pointer (some ⟨k,oo,none⟩)) []).rs) (val (.pointer (some ⟨k,oo,none⟩)) []) :=
 zcj λr D a W hR _ hlow hD=>by
  have h1:=evR hR (x:=x) (by simp [ho,Op.operands]) hx hlow hD
  rw [hg] at h1
  have h3:a.eval x=.pointer (some ⟨r k,oo,none⟩):=h1.1
  refine ⟨?_,h1.2⟩
  simp [execOp,ho,h3,ren,zas,zan,zao]

theorem zwg (l:Int) (h0:0<l) (h1:l<=4096):IntKind.i64.wrap l=l:=by
 simp only [IntKind.wrap,IntKind.bits,IntKind.signed]
 simp
 omega
theorem zms {T e:TypeId} {m b:Nat} {l:Int} {x y:Operand} {z:Value} (ho:o.op=.makeSlice T x y) (h0:okX ts hp x) (h1:okX ts hp y) (hx:gev ts x=.int .i64 l) (hy:gev ts y=.int .i64 l)
  (hu:P.underlying T=some (.slice e)) (hm:zaz P e=some m) (hz:zbq P e=some z) (hb:tyB P e=some b) (hzc:za9 z=true) (hzf:za0 z=true) (hl0:0<l) (hl1:l<=4096) (hb1:b<=4096) (hpos:0<m) :
  OpD P o ts (rst hp (Eff.mk (.slice (some ⟨nk,0,none⟩) l.toNat l.toNat) [] [] [(nk,⟨(Array.range (l.toNat*m)).map (z.cells[·%z.cells.size]!),e⟩)] none false).rs) ⟨.slice (some ⟨nk,0,none⟩) l.toNat l.toNat,[],[],[(nk,⟨(Array.range (l.toNat*m)).map (z.cells[·%z.cells.size]!),e⟩)],none,false⟩ :=
 zjt (by simp [zap,zau,zaj,zal]) λr D a W hR _ hlow hD=>by
  have e1:=evR hR (x:=x) (by simp [ho,Op.operands]) h0 hlow hD
  have e2:=evR hR (x:=y) (by simp [ho,Op.operands]) h1 hlow hD
  rw [hx] at e1
  rw [hy] at e2
  have e1:a.eval x=.int .i64 l:=e1.1
  have e2:a.eval y=.int .i64 l:=e2.1
  have hzi:∀ x∈z.cells,zbj x=true:=λx hx=>by
   cases z with
   | tuple vs=>exact absurd rfl (zcl hzc vs)
   | agg cs'=>exact Array.all_eq_true_iff_forall_mem.1 hzf x hx
   | _=>simp only [Value.cells] at hx;simp at hx;subst hx;exact hzf
  have hbase:∀ x∈(Array.range (l.toNat*m)).map (z.cells[·%z.cells.size]!),zbj x=true:=λx hx=>by
   obtain ⟨j,_,rfl⟩:=Array.mem_map.1 hx
   by_cases hlt:j%z.cells.size<z.cells.size
   ·rw [getElem!_pos z.cells _ hlt];exact hzi _ (Array.getElem_mem hlt)
   ·rw [getElem!_neg z.cells _ hlt];rfl
  have hb2:((Array.range (l.toNat*m)).map (z.cells[·%z.cells.size]!)).map (zan r)=(Array.range (l.toNat*m)).map (z.cells[·%z.cells.size]!):=zbn λx hx=>zcc (hbase x hx)
  refine ⟨?_,λx hx=>zdw (hbase x hx)⟩
  have hw:IntKind.i64.wrap l=l:=zwg l hl0 hl1
  have hbl:(b:Int)*l<=16777216:=by
   have:=Int.mul_le_mul (a:=(b:Int)) (b:=l) (c:=4096) (d:=4096) (by omega) hl1 (by omega) (by omega)
   omega
  have hbn:l.toNat*b<=16777216:=by
   have:=Nat.mul_le_mul (show l.toNat<=4096 by omega) hb1
   omega
  have t1:(decide (l<0)||decide ((b:Int)*l>2^48))=false:=by
   rw [Bool.or_eq_false_iff]
   exact ⟨decide_eq_false (by omega),decide_eq_false (by omega)⟩
  have t2:¬l.toNat*b>roomBytes:=by unfold roomBytes;omega
  have t3:¬l.toNat*m=0:=by
   have:=Nat.mul_pos (show 0<l.toNat by omega) hpos
   omega
  unfold tyB at hb
  cases hi:P.info? e with
  | none=>rw [hi] at hb;cases hb
  | some i =>
   rw [hi] at hb
   simp only [Option.map_some,Option.some.injEq] at hb
   subst hb
   have hty:∀ W,(typeInfo e).run P W=.ok i W:=λW=>by simp [typeInfo,hi]
   simp only [execOp,ho,Instr.makeSlice,e1,e2,asInt,asIntOf,Sem.run_bind,run_underlying hu,Result.andThen_ok,zb1 hm,hty,Sem.run_pure,hw,t1]
   have t5:(decide (l<0))=false:=decide_eq_false (by omega)
   have t6:(decide (l>l))=false:=decide_eq_false (by omega)
   simp [askRoom,t2,t3,t5,t6,zb1 hm,zf4 hz,newRow,newObj,Sem.run,ren,zas,zan,zao,Blk.obj,hb2]
theorem zik {y:Nat} {k:IntKind} {m:Int} {c:BoundsCode} (h:0<=m/\m<=y) (W:World):(Instr.sliceBound (.int k m) y c).run P W=.ok m.toNat W:=by
 simp [Instr.sliceBound,asIntOf,h]
theorem zd1 {b:Bool} {len cap l h:Nat} {lo hi:Option Value} (hs:ze5 len cap lo hi=some (l,h)) (W:World):(Instr.sliceBounds b len cap lo hi none).run P W=.ok (l,h,cap) W:=by
 unfold ze5 at hs
 cases hh:hiG len cap hi with
 | none=>rw [hh] at hs;cases hs
 | some h' =>
  rw [hh] at hs
  simp only [Option.map_eq_some_iff] at hs
  obtain ⟨l',hl,e⟩:=hs
  cases e
  unfold Instr.sliceBounds
  cases hi with
  | none =>
   simp only [hiG,Option.some.injEq] at hh;subst hh
   cases lo with
   | none=>simp only [loG,Option.some.injEq] at hl;subst hl;simp
   | some v =>
    cases v<;>simp only [loG] at hl<;>first|(cases hl;done)|skip
    split at hl
    ·rename_i hc
     cases hl
     simp [zik hc]
    ·cases hl
  | some u =>
   cases u<;>simp only [hiG] at hh<;>first|(cases hh;done)|skip
   split at hh
   ·rename_i hd
    cases hh
    cases lo with
    | none=>simp only [loG,Option.some.injEq] at hl;subst hl;simp [zik hd]
    | some v =>
     cases v<;>simp only [loG] at hl<;>first|(cases hl;done)|skip
     split at hl
     ·rename_i hc
      cases hl
      simp [zik hd,zik hc]
     ·cases hl
   ·cases hh

theorem zv3 {len cap:Nat} {lo hi:Option Value} {p:Nat×Nat} (h:ze5 len cap lo hi=some p):(∀ v,lo=some v->za0 v=true)/\(∀ v,hi=some v->za0 v=true):=by
 unfold ze5 at h
 split at h
 ·cases h
 ·rename_i h' hh
  refine ⟨λv e=>?_,λv e=>?_⟩
  ·subst e
   cases v<;>first|rfl|(simp [loG] at h)
  ·subst e
   cases v<;>first|rfl|(simp [hiG] at hh)

theorem znq {a:Option (Nat×Nat)} {s c:Nat} {p:Option (Nat×Nat)} {v:Value} (h:slV a s c p=some v):∃ l hh,p=some (l,hh)/\v=.slice (a.map λp=>⟨p.1,if c=l then p.2 else p.2+l*s,none⟩) (hh - l) (c - l):=by
 unfold slV at h
 split at h
 ·rename_i l hh
  cases h;exact ⟨l,hh,rfl,rfl⟩
 ·cases h

theorem zw6 {T:TypeId} {x:Operand} {lo hi mx:Option Operand} {v:Value} (ho:o.op=.slice T x lo hi mx) (hx:okX ts hp x) (hlo:∀ y∈lo.toList,okX ts hp y) (hhi:∀ y∈hi.toList,okX ts hp y) (hmx:mx.isNone=true)
  (hv:slX P T (gev ts x) (lo.map (gev ts)) (hi.map (gev ts))=some v):OpD P o ts (rst hp (val v []).rs) (val v []) :=
 zcj λr D a W hR _ hlow hD=>by
  obtain rfl:mx=none:=by cases mx<;>simp_all
  have h1:=evR hR (x:=x) (by simp [ho,Op.operands]) hx hlow hD
  have key:∀ {n c:Nat} {p:Nat×Nat},ze5 n c (lo.map (gev ts)) (hi.map (gev ts))=some p->lo.map a.eval=lo.map (gev ts)/\hi.map a.eval=hi.map (gev ts):=λ{n c p} hp1=>by
   obtain ⟨f1,f2⟩:=zv3 hp1
   constructor
   ·cases lo with
    | none=>rfl
    | some y =>
     simp only [Option.map_some] at f1 |-
     rw [(evR hR (x:=y) (by simp [ho,Op.operands]) (hlo y (by simp)) hlow hD).1,zax (f1 _ rfl)]
   ·cases hi with
    | none=>rfl
    | some y =>
     simp only [Option.map_some] at f2 |-
     rw [(evR hR (x:=y) (by simp [ho,Op.operands]) (hhi y (by simp)) hlow hD).1,zax (f2 _ rfl)]
  have ifs:∀ (c l k o1 o2:Nat),(if c=l then (⟨k,o1,none⟩:Addr) else ⟨k,o2,none⟩)=⟨k,if c=l then o1 else o2,none⟩:=λc l k o1 o2=>by split<;>rfl
  unfold slX at hv
  split at hv
  ·rename_i n e hu
   split at hv
   ·rename_i k off hg
    split at hv
    ·rename_i s hs
     obtain ⟨l,hh,hp1,rfl⟩:=znq hv
     obtain ⟨q1,q2⟩:=key hp1
     rw [hg] at h1
     have h3:a.eval x=.pointer (some ⟨r k,off,none⟩):=h1.1
     refine ⟨?_,by simpa [zap,zau,zaj,zal] using h1.2⟩
     have e1:=zd1 (P:=P) (b:=false) hp1 W
     simp only [execOp,ho,Option.map_none,q1,q2,h3,Instr.sliceAt,Sem.run_bind,run_underlying hu,Result.andThen_ok,Instr.sureAddr,Sem.run_pure,e1,zb1 hs,zhv]
     simp [ren,zas,zan,zao,ifs]
    ·cases hv
   ·cases hv
  ·rename_i e hu
   split at hv
   ·rename_i k off n c hg
    split at hv
    ·rename_i s hs
     obtain ⟨l,hh,hp1,rfl⟩:=znq hv
     obtain ⟨q1,q2⟩:=key hp1
     rw [hg] at h1
     have h3:a.eval x=.slice (some ⟨r k,off,none⟩) n c:=h1.1
     refine ⟨?_,by simpa [zap,zau,zaj,zal] using h1.2⟩
     have e1:=zd1 (P:=P) (b:=true) hp1 W
     simp only [execOp,ho,Option.map_none,q1,q2,h3,Instr.sliceAt,Instr.slice,Sem.run_bind,run_underlying hu,Result.andThen_ok,Sem.run_pure,e1,zb1 hs]
     simp [ren,zas,zan,zao,zhv]
     split<;>rfl
    ·cases hv
   ·rename_i n c hg
    split at hv
    ·rename_i s hs
     obtain ⟨l,hh,hp1,rfl⟩:=znq hv
     obtain ⟨q1,q2⟩:=key hp1
     rw [hg] at h1
     have h3:a.eval x=.slice none n c:=h1.1
     refine ⟨?_,by trivial⟩
     have e1:=zd1 (P:=P) (b:=true) hp1 W
     simp only [execOp,ho,Option.map_none,q1,q2,h3,Instr.sliceAt,Instr.slice,Sem.run_bind,run_underlying hu,Result.andThen_ok,Sem.run_pure,e1,zb1 hs]
     simp [ren,zas,zan,zao]
    ·cases hv
   ·cases hv
  ·rename_i hu
   split at hv
   ·rename_i s hg
    unfold slS at hv
    split at hv
    ·rename_i l hh hp1
     cases hv
     obtain ⟨q1,q2⟩:=key hp1
     rw [hg] at h1
     have h3:a.eval x=.string s:=h1.1
     refine ⟨?_,by trivial⟩
     have e1:=zd1 (P:=P) (b:=false) hp1 W
     simp only [execOp,ho,Option.map_none,q1,q2,h3,Instr.sliceAt,Instr.slice,Sem.run_bind,run_underlying hu,Result.andThen_ok,Sem.run_pure]
     simp [Sem.run_bind,e1,ren,zas,zan,zao]
    ·cases hv
   ·cases hv
  ·cases hv

theorem z77 {T:TypeId} {x:Operand} {v:Value} (ho:o.op=.sliceToArrayPointer T x) (hx:okX ts hp x) (hv:jbr P T (gev ts x)=some v):OpD P o ts (rst hp (val v []).rs) (val v []) :=
 zcj λr D a W hR _ hlow hD=>by
  have h1:=evR hR (x:=x) (by simp [ho,Op.operands]) hx hlow hD
  unfold jbr at hv
  split at hv
  ·rename_i n e hu
   split at hv
   ·rename_i ad len c hg
    split at hv
    ·rename_i hle
     cases hv
     rw [hg] at h1
     have hn:¬len<n:=by omega
     cases ad with
     | none =>
      have h3:a.eval x=.slice none len c:=h1.1
      exact ⟨by simp [execOp,ho,Instr.arrayAt,h3,run_underlying hu,hn,ren,zas,zan,zao],by trivial⟩
     | some ad =>
      have h3:a.eval x=.slice (some { ad with block:=r ad.block }) len c:=h1.1
      exact ⟨by simp [execOp,ho,Instr.arrayAt,h3,run_underlying hu,hn,ren,zas,zan,zao],by simpa [zap,zau,zaj,zal] using h1.2⟩
    ·cases hv
   ·cases hv
  ·cases hv

theorem z3t {r:Nat->Nat} {T t:TypeId} {u v:Value} (h:jci P T u=some v) (W:World):(Builtin.len_ #[T] t #[ren r u]).run P W=.ok v W/\za0 v=true:=by
 unfold jci at h
 split at h
 ·rename_i hu
  split at h
  ·cases h
   exact ⟨by simp [Builtin.len_,run_underlying hu,ren,zas,zan,zao,goInt],rfl⟩
  ·cases h
 ·rename_i n e hu
  cases h
  exact ⟨by simp [Builtin.len_,run_underlying hu,goInt],rfl⟩
 ·rename_i e hu
  split at h
  ·rename_i ad n c
   cases h
   cases ad<;>exact ⟨by simp [Builtin.len_,run_underlying hu,ren,zas,zan,zao,goInt],rfl⟩
  ·cases h
 ·cases h
theorem zo8 {b:Bool}:∀ {l:List Value} {x v:Value},zp7 b x l=some v->za0 x=true/\(∀ x∈l,za0 x=true)/\za0 v=true
 | [],x,v,h=>by
  cases x<;>simp only [zp7,jjd] at h<;>first|(cases h;done)|skip
  cases h;exact ⟨rfl,by simp,rfl⟩
 | y::l,x,v,h=>by
  simp only [zp7] at h
  split at h
  ·rename_i z hz
   have ih:=zo8 h
   unfold zu9 at hz
   split at hz
   ·cases hz
    exact ⟨rfl,λq hq=>by
     simp only [List.mem_cons] at hq
     rcases hq with rfl|hq
     ·rfl
     ·exact ih.2.1 q hq,ih.2.2⟩
   ·cases hz
  ·cases h
theorem zkr {b:Bool} {l:List Value} {v:Value} (h:zza b l=some v):(∀ x∈l,za0 x=true)/\za0 v=true:=by
 cases l with
 | nil=>cases h
 | cons x l =>
  have:=zo8 h
  exact ⟨λq hq=>by
   simp only [List.mem_cons] at hq
   rcases hq with rfl|hq
   ·exact this.1
   ·exact this.2.1 q hq,this.2.2⟩
theorem zs7:∀ {l:List Value} {x v:Value} (W:World),zp7 true x l=some v->(l.foldlM Builtin.max2 x).run P W=.ok v W
 | [],x,v,W,h=>by
  cases x<;>simp only [zp7,jjd] at h<;>first|(cases h;done)|skip
  cases h;rfl
 | y::l,x,v,W,h=>by
  simp only [zp7] at h
  split at h
  ·rename_i z hz
   have hr:=zs7 W h
   unfold zu9 at hz
   split at hz
   ·cases hz
    simp only [if_true] at hr
    simp only [List.foldlM_cons,Sem.run_bind,Builtin.max2,Sem.run_pure,Result.andThen_ok]
    exact hr
   ·cases hz
  ·cases h
theorem zs9:∀ {l:List Value} {x v:Value} (W:World),zp7 false x l=some v->(l.foldlM Builtin.min2 x).run P W=.ok v W
 | [],x,v,W,h=>by
  cases x<;>simp only [zp7,jjd] at h<;>first|(cases h;done)|skip
  cases h;rfl
 | y::l,x,v,W,h=>by
  simp only [zp7] at h
  split at h
  ·rename_i z hz
   have hr:=zs9 W h
   unfold zu9 at hz
   split at hz
   ·cases hz
    simp only [Bool.false_eq_true,if_false] at hr
    simp only [List.foldlM_cons,Sem.run_bind,Builtin.min2,Sem.run_pure,Result.andThen_ok]
    exact hr
   ·cases hz
  ·cases h
theorem z9t {l:List Value} {v:Value} (W:World) (h:zza true l=some v):∃ x rest,l=x::rest/\(rest.foldlM Builtin.max2 x).run P W=.ok v W:=by
 cases l with
 | nil=>cases h
 | cons x l=>exact ⟨x,l,rfl,zs7 W h⟩
theorem z9u {l:List Value} {v:Value} (W:World) (h:zza false l=some v):∃ x rest,l=x::rest/\(rest.foldlM Builtin.min2 x).run P W=.ok v W:=by
 cases l with
 | nil=>cases h
 | cons x l=>exact ⟨x,l,rfl,zs9 W h⟩
theorem zw0 {c:Call} {v:Value} (ho:o.op=.call c) (hx:∀ x∈c.args.toList,okX ts hp x) (hv:zln P ts c=some v):OpD P o ts (rst hp (val v []).rs) (val v []) :=
 zcj λr D a W hR _ hlow hD=>by
  have hev:∀ x∈c.args,a.eval x=ren r (gev ts x):=λx hx1=>(evR hR (x:=x) (by simp [ho,Op.operands,Call.operands,hx1]) (hx x (by simpa using hx1)) hlow hD).1
  have hlist:c.args.toList.map a.eval=c.args.toList.map λx=>ren r (gev ts x):=List.map_congr_left λx hx1=>hev x (by simpa using hx1)
  have fl:∀ {b:Bool},zza b (c.args.toList.map (gev ts))=some v->(c.args.map a.eval).toList=c.args.toList.map (gev ts):=λ{b} h=>by
   rw [Array.toList_map,hlist]
   exact List.map_congr_left λx hx1=>zax ((zkr h).1 _ (List.mem_map.2 ⟨x,hx1,rfl⟩))
  unfold zln at hv
  split at hv
  ·rename_i hc
   split at hv
   ·rename_i x T h1 h2
    have e1:c.args=#[x]:=by rw [<-Array.toArray_toList (xs:=c.args),h1]
    have e2:c.argTypes=#[T]:=by rw [<-Array.toArray_toList (xs:=c.argTypes),h2]
    have e3:=z3t (P:=P) (r:=r) (t:=o.type) hv W
    refine ⟨?_,zak e3.2⟩
    have e4:=hev x (by rw [e1];simp)
    simp only [execOp,ho,resolve,hc,Sem.run_bind,Sem.run_pure,Result.andThen_ok,invoke,builtin,e1,e2,zax e3.2]
    simp only [List.map_toArray,List.map_cons,List.map_nil,e4,e3.1,Result.andThen_ok]
   ·cases hv
  ·rename_i hc
   have e3:=zkr hv
   refine ⟨?_,zak e3.2⟩
   obtain ⟨x,rest,e5,e6⟩:=z9t (P:=P) W hv
   have e4:=fl hv
   simp only [execOp,ho,resolve,hc,Sem.run_bind,Sem.run_pure,Result.andThen_ok,invoke,builtin,Builtin.max_,e4,e5,e6,zax e3.2]
  ·rename_i hc
   have e3:=zkr hv
   refine ⟨?_,zak e3.2⟩
   obtain ⟨x,rest,e5,e6⟩:=z9u (P:=P) W hv
   have e4:=fl hv
   simp only [execOp,ho,resolve,hc,Sem.run_bind,Sem.run_pure,Result.andThen_ok,invoke,builtin,Builtin.min_,e4,e5,e6,zax e3.2]
  ·cases hv

def unD (o:Oper) (ts:Nat->Value):Prop :=
 match o.op with
 | .call c=>match c.callee with
  | .value (.tmp t)=>ts t=undef
  | .value (.func _)=>True
  | .builtin _=>True
  | _=>False
 | _=>True
def unC (P:Program) (o:Oper):Prop :=
 match o.op with
 | .call c=>match c.callee with
  | .value (.func f)=>∃ fn,P.funcs[f]? = some fn
  | _=>True
 | _=>True

def okp (P:Program) (Y:Option YG):OKP where
 ok o ts yc hp e:=(e.yl=false/\OpD P o ts hp e)\/(e.yl=true/\OpY Y o ts yc e)
 congr o ts ts' yc yc' hp e ht hy h:=by
  rcases h with ⟨h1,h2⟩|⟨h1,y,f,args,T,h2,h3,h4,h5,h6,h7,h8,h9⟩
  ·exact .inl ⟨h1,h2.congr ht⟩
  ·have hm:∀ x∈o.op.operands,gev ts x=gev ts' x:=λx hx=>by
    cases x<;>first|rfl|exact ht _ hx
   have hk:∀ x∈o.op.operands,okT ts x->okT ts' x:=λx hx h=>by
    cases x<;>first|exact h|(have:=ht _ hx;simp only [okT] at h |-;rwa [<-this])
   have hf:f∈o.op.operands:=by simp [h3,Op.operands,Call.operands]
   have ha:∀ x∈args,x∈o.op.operands:=λx hx=>by simp [h3,Op.operands,Call.operands,hx]
   refine .inr ⟨h1,y,f,args,T,h2,h3,hk f hf h4,λx hx=>⟨hk x (ha x (by simpa using hx)) (h5 x hx).1,by rw [<-hm x (ha x (by simpa using hx))];exact (h5 x hx).2⟩,by rw [<-hm f hf];exact h6,by rw [<-hy h1];exact h7,?_,by rw [<-hy h1];exact h9⟩
   rw [<-hy h1,h8]
   congr 1
   exact Array.map_congr_left λx hx=>hm x (ha x hx)
 un o ts:=unD o ts/\unC P o
 uncongr o ts ts' ht h:=by
  refine ⟨?_,h.2⟩
  have h1:=h.1
  unfold unD at *
  split
  ·rename_i c hc
   simp only [hc] at h1
   cases hcc:c.callee with
   | value x =>
    simp only [hcc] at h1 |-
    cases x with
    | tmp t=>simp only at h1 |-;rw [<-ht t (by simp [hc,hcc,Op.operands,Call.operands])];exact h1
    | func f=>trivial
    | _=>exact h1.elim
   | invoke x m=>simp only [hcc] at h1
   | builtin b=>trivial
  ·trivial

theorem zs8 {Y:Option YG}:zwx P (okp P Y):=by
 intro o ts r D a W hR hu f hf
 obtain ⟨h1,h2⟩:=hu
 unfold Oper.about at hf
 unfold unD at h1
 unfold unC at h2
 split at hf
 ·rename_i c hc
  simp only [hc] at h1 h2
  cases hcc:c.callee with
  | value x =>
   simp only [hcc] at h1 h2
   cases x with
   | tmp t =>
    simp only at h1
    have:=((hR t).resolve_left (by rw [h1];simp [undef,zbz])).1
    rw [h1,zcp] at this
    have he:a.eval (.tmp t)=undef:=this
    simp [resolve,hcc,he,Deferred.ofValue,undef,stuck] at hf
   | func g =>
    simp only at h2
    simp [resolve,hcc,Act.eval,Deferred.ofValue,Target.leads] at hf
    subst hf;exact h2
   | _=>exact h1.elim
  | invoke x m=>simp only [hcc] at h1
  | builtin b=>simp [resolve,hcc,Target.leads] at hf
 ·cases hf
theorem zw8 {c:Call} {f:Operand} {g:FuncId} {first cap:Array Value} {oc:Out} (hGF:zbm G) (hG:∀ k,k<100->hp k=G k) (ho:o.op=.call c) (hc:c.callee=.value f) (hf:okX ts hp f) (hgf:gev ts f=.func (.func g) first cap)
  (hfi:first.size=0) (hca:cap.size=0) (ha:∀ x∈c.args.toList,okX ts hp x) (hr:zli P G g (c.args.map (gev ts)) oc):OpD P o ts (rst hp oc.eff.rs) oc.eff:=by
 have ers:oc.eff.rs=[]:=by cases oc<;>rfl
 rw [ers]
 intro r D a W hR hS _ hlow hD _
 have hfl:∀ x∈c.args.map (gev ts),za0 x=true:=hr.2.1
 obtain rfl:first=#[]:=by cases first;simpa using hfi
 obtain rfl:cap=#[]:=by cases cap;simpa using hca
 have h1:=evR (rs:=[]) hR (x:=f) (by simp [ho,hc,Op.operands,Call.operands]) hf hlow hD
 rw [hgf] at h1
 have h3:a.eval f=.func (.func g) #[] #[]:=by rw [h1.1];simp [ren,zas,zan]
 have hargs:c.args.map a.eval=c.args.map (gev ts):=Array.map_congr_left λx hx=>by
  rw [(evR (rs:=[]) hR (x:=x) (by simp [ho,Op.operands,Call.operands,hx]) (ha x (by simpa using hx)) hlow hD).1]
  exact zax (hfl _ (Array.mem_map.2 ⟨x,hx,rfl⟩))
 obtain ⟨hv,_,hen,hcall⟩:=hr
 have hrun:(execOp a.eval o).run P W=.ok (.enter g (c.args.map (gev ts))) W:=by
  simp [execOp,ho,resolve,hc,h3,Deferred.ofValue,invoke,hargs,hen]
 have hgok:GOK G W:=zx4 hGF hG hS hlow hD
 unfold zlj
 rw [hrun]
 refine (hcall W hgok).mono λe W'' he=>?_
 cases oc with
 | ret v =>
  obtain ⟨rfl,hb⟩:=he
  have hv:=hv v rfl
  exact ⟨rfl,r,λ_ _=>rfl,(zax hv).symm,zak hv,Turn.of_below hb⟩
 | pan v =>
  obtain ⟨rfl,hb⟩:=he
  exact ⟨v,rfl,rfl,hb⟩
theorem zw5 {x:Operand} {T:TypeId} {u:Value} (ho:o.op=.panic x) (hx:okX ts hp x) (hf:za0 (gev ts x)=true) (hg:gev ts x=.iface T u):OpD P o ts (rst hp []) ⟨zbz,[],[],[],some (.iface T u),false⟩:=by
 intro r D a W hR _ _ hlow hD _
 have h1:=evR (rs:=[]) hR (x:=x) (by simp [ho,Op.operands]) hx hlow hD
 have h2:a.eval x=.iface T u:=by rw [h1.1,zax hf,hg]
 unfold zlj
 have:(execOp a.eval o).run P W=.halt (.panic (.iface T u)) W:=by
  simp [execOp,ho,h2,Instr.panic]
 rw [this]
 exact ⟨by simp [Oper.about,ho],rfl,Below.refl _ _⟩

theorem zgt {C:Eff->Prop} (hGF:zbm G) (hG:∀ k,k<100->hp k=G k) (h:opX P G V yc o ts hp nk C):∃ e,(okp P V.Y).ok o ts yc (rst hp e.rs) e/\Shape hp nk e/\C e:=by
 unfold opX at h
 split at h
 case h_1 x ho=>exact ⟨_,.inl ⟨rfl,zsg (.inl ho) h.1⟩,.val,h.2⟩
 case h_2 x ho=>exact ⟨_,.inl ⟨rfl,zsg (.inr ho) h.1⟩,.val,h.2⟩
 case h_3 c x y ho =>
  obtain ⟨h0,h⟩:=h
  split at h
  ·rename_i b hb
   exact ⟨_,.inl ⟨rfl,z2d ho h0 hb h.1 h.2.1⟩,.val,h.2.2⟩
  ·exact h.elim
 case h_4 T ho =>
  split at h
  ·rename_i z hz
   exact ⟨_,.inl ⟨rfl,zwy ho hz h.1 h.2.1⟩,.new,h.2.2⟩
  ·exact h.elim
 case h_5 T x ho=>exact ⟨_,.inl ⟨rfl,z79 ho h.1 h.2.1⟩,.new,h.2.2⟩
 case h_6 T x ho =>
  obtain ⟨h0,h⟩:=h
  split at h
  ·rename_i k off hg
   split at h
   ·rename_i b hb
    split at h
    ·rename_i v hv
     exact ⟨_,.inl ⟨rfl,z2c ho h0 hg hb hv⟩,.val,h⟩
    ·exact h.elim
   ·exact h.elim
  ·exact h.elim
 case h_7 T x y ho =>
  obtain ⟨h0,h0',h⟩:=h
  split at h
  ·rename_i k off hg
   split at h
   ·rename_i b hb
    obtain ⟨hown,h1,h2,h3,h4,h5⟩:=h
    exact ⟨_,.inl ⟨rfl,zw7 ho h0 h0' hg hb hown h1 h2 h3⟩,.wr (by unfold dom;rw [hb];simp) h4,h5⟩
   ·exact h.elim
  ·exact h.elim
 case h_8 x i ho =>
  obtain ⟨h0,h⟩:=h
  split at h
  ·rename_i vs hg
   split at h
   ·rename_i v hv
    exact ⟨_,.inl ⟨rfl,zqd ho h0 hg hv h.1⟩,.val,h.2⟩
   ·exact h.elim
  ·exact h.elim
 case h_9 T x i ho =>
  obtain ⟨h0,h0',h⟩:=h
  split at h
  ·rename_i kd m hgi
   split at h
   ·rename_i len e hu
    split at h
    ·rename_i k off hg
     obtain ⟨⟨h1,h2⟩,h⟩:=h
     split at h
     ·rename_i s hs
      exact ⟨_,.inl ⟨rfl,zt6 ho h0 h0' hgi hu hg h1 h2 hs⟩,.val,h⟩
     ·exact h.elim
    ·exact h.elim
   ·rename_i e hu
    split at h
    ·rename_i k off len cap hg
     obtain ⟨⟨h1,h2⟩,h⟩:=h
     split at h
     ·rename_i s hs
      exact ⟨_,.inl ⟨rfl,zt7 ho h0 h0' hgi hu hg h1 h2 hs⟩,.val,h⟩
     ·exact h.elim
    ·exact h.elim
   ·exact h.elim
  ·exact h.elim
 case h_10 T x i ho =>
  obtain ⟨h0,h0',h⟩:=h
  split at h
  ·rename_i kd m hgi
   split at h
   ·rename_i len e hu
    split at h
    ·rename_i cs hg
     obtain ⟨⟨h1,h2⟩,h⟩:=h
     split at h
     ·rename_i s hs
      split at h
      ·rename_i v hv
       exact ⟨_,.inl ⟨rfl,zw3 ho h0 h0' hgi hu hg h1 h2 hs hv⟩,.val,h⟩
      ·exact h.elim
     ·exact h.elim
    ·exact h.elim
   ·rename_i hu
    split at h
    ·rename_i s hg
     split at h
     ·rename_i b hb
      exact ⟨_,.inl ⟨rfl,zn6 ho h0 h0' hgi hu hg hb⟩,.val,h⟩
     ·exact h.elim
    ·exact h.elim
   ·exact h.elim
  ·exact h.elim
 case h_11 T x f ho =>
  obtain ⟨h0,h⟩:=h
  split at h
  ·rename_i t off hf
   split at h
   ·rename_i cs hg
    split at h
    ·rename_i v hv
     exact ⟨_,.inl ⟨rfl,zw1 ho h0 hf hg hv⟩,.val,h⟩
    ·exact h.elim
   ·exact h.elim
  ·exact h.elim
 case h_12 T x f ho =>
  obtain ⟨h0,h⟩:=h
  split at h
  ·rename_i t off hf
   split at h
   ·rename_i k oo hg
    exact ⟨_,.inl ⟨rfl,zmr ho h0 hf hg⟩,.val,h⟩
   ·exact h.elim
  ·exact h.elim
 case h_13 T x lo hi mx ho =>
  obtain ⟨h0,h1,h2,h3,h⟩:=h
  split at h
  ·rename_i v hv
   exact ⟨_,.inl ⟨rfl,zw6 ho h0 h1 h2 h3 hv⟩,.val,h⟩
  ·exact h.elim
 case h_14 T x ho =>
  obtain ⟨h0,h⟩:=h
  split at h
  ·rename_i v hv
   exact ⟨_,.inl ⟨rfl,z77 ho h0 hv⟩,.val,h⟩
  ·exact h.elim
 case h_15 fn first cap ho=>exact ⟨_,.inl ⟨rfl,zn7 ho h.1 h.2.1⟩,.val,h.2.2⟩
 case h_16 T parts ho =>
  obtain ⟨h0,h⟩:=h
  split at h
  ·rename_i z hz
   obtain ⟨h1,h2,h⟩:=h
   split at h
   ·rename_i pl hpl
    split at h
    ·rename_i cs hcs
     exact ⟨_,.inl ⟨rfl,zwz ho h0 hz h1 h2 (zlc hz hpl hcs)⟩,.val,h⟩
    ·exact h.elim
   ·exact h.elim
  ·exact h.elim
 case h_17 T len parts ho =>
  obtain ⟨h0,h⟩:=h
  split at h
  ·rename_i e hu
   split at h
   ·rename_i m hm
    split at h
    ·rename_i z hz
     obtain ⟨h1,h2,h3,h4,h⟩:=h
     split at h
     ·rename_i cs hcs
      exact ⟨_,.inl ⟨rfl,zlb ho h0 hu hm hz h1 h2 h3 h4 hcs⟩,.new,h⟩
     ·exact h.elim
    ·exact h.elim
   ·exact h.elim
  ·exact h.elim
 case h_18 T x ho =>
  obtain ⟨h0,h1,h⟩:=h
  split at h
  ·exact h.elim
  ·rename_i dd hn hu
   exact ⟨_,.inl ⟨rfl,zw2 ho h0 h1 hu (λms e=>hn ms e)⟩,.val,h⟩
  ·exact h.elim
 case h_19 op T x y yT ho =>
  obtain ⟨h0,h1,h⟩:=h
  split at h
  ·rename_i v hv
   exact ⟨_,.inl ⟨rfl,z78 ho h0 h1 hv⟩,.val,h⟩
  ·obtain ⟨h1,v,hv,hr,hC⟩:=h
   exact ⟨_,.inl ⟨rfl,zmt (λcs b e=>by simp_all) h1 hv hr⟩,.val,hC⟩
 case h_20 op T x ho =>
  obtain ⟨h0,h⟩:=h
  split at h
  ·rename_i v hv
   exact ⟨_,.inl ⟨rfl,jdn ho h0 hv⟩,.val,h⟩
  ·exact h.elim
 case h_21 S T x ho =>
  obtain ⟨h0,h⟩:=h
  split at h
  ·rename_i v hv
   exact ⟨_,.inl ⟨rfl,z2b ho h0 hv⟩,.val,h⟩
  ·obtain ⟨h1,v,hv,hr,hC⟩:=h
   exact ⟨_,.inl ⟨rfl,zmt (λcs b e=>by simp_all) h1 hv hr⟩,.val,hC⟩
 case h_22 c ho =>
  unfold zui at h
  split at h
  ·rename_i f hc
   obtain ⟨h1,h⟩:=h
   unfold zit at h
   split at h
   ·rename_i g first cap hgf
    obtain ⟨h2,h4,h⟩:=h
    split at h
    ·rename_i hcond
     split at h
     ·obtain ⟨oc,h5,h6⟩:=h
      refine ⟨_,.inl ⟨by cases oc<;>rfl,zw8 hGF hG ho hc (zne h1) hgf h2 hcond.1 h4 h5⟩,?_,h6⟩
      cases oc<;>exact ⟨by simp [Out.eff,val,zab],by simp [Out.eff,val,zab],by simp [Out.eff,val]⟩
     ·obtain ⟨v,h5,h6⟩:=h
      exact ⟨_,.inl ⟨rfl,z2a hGF hG ho hc (zne h1) hgf h2 hcond.1 h4 h5⟩,.val,h6⟩
    ·obtain ⟨h3,hp',rs,res,hq1,hq2,h5,hat,h6⟩:=h
     replace h5:=h5.under (hp:=hp) λk hk=>hk.elim (λhk=>(hq2 k hk).trans (hG k hk).symm) (λhk=>hq1 k hk)
     have hfit:=h5.fits
     refine ⟨res.eff rs,.inl ⟨by cases res<;>rfl,z8a hGF hG ho hc h1 hgf h2 h3 h4 h5⟩,?_,h6⟩
     cases res with
     | ret v ws=>exact ⟨λk hk=>hfit.2.1 k hk,by simp [Res.eff,zab],λk b c hb hc=>hfit.2.2.1 k b c (by simpa [Res.eff] using hb) (by simpa [Res.eff] using hc)⟩
     | pan v=>exact ⟨by simp [Res.eff,zab],by simp [Res.eff,zab],by simp [Res.eff]⟩
     | new v ns=>exact ⟨by simp [Res.eff,zab],hat,λk b c hb hc=>hfit.2.2 k b c (by simpa [Res.eff] using hb) (by simpa [Res.eff] using hc)⟩
   ·rename_i l first cap hgf
    obtain ⟨h2,h3,h4,h⟩:=h
    obtain rfl:first=#[]:=by cases first;simpa using h2
    obtain rfl:cap=#[]:=by cases cap;simpa using h3
    unfold zmp at h
    split at h
    ·rename_i y hy
     obtain ⟨rfl,h5,h6,h7⟩:=h
     obtain ⟨callee,args,T⟩:=c
     simp only at hc
     subst hc
     refine ⟨_,.inr ⟨by unfold jbm;split<;>rfl,y,f,args,T,hy,ho,h1,h4,hgf,h5,h6,rfl⟩,?_,h7⟩
     unfold jbm
     split<;>exact ⟨by simp [zab],by simp [zab],by simp⟩
    ·exact h.elim
   ·exact h.elim
  ·rename_i hnv
   obtain ⟨h1,h⟩:=h
   split at h
   ·rename_i v hv
    exact ⟨_,.inl ⟨rfl,zw0 ho h1 hv⟩,.val,h⟩
   ·exact h.elim
 case h_23 x ho =>
  obtain ⟨h0,h1,h⟩:=h
  split at h
  ·rename_i T u hg
   exact ⟨_,.inl ⟨rfl,zw5 ho h0 h1 hg⟩,⟨by simp [zab],by simp [zab],by simp⟩,h⟩
  ·exact h.elim
 case h_24 T y ho=>exact ⟨_,.inl ⟨rfl,zqe ho h.1⟩,.new,h.2⟩
 case h_25 T m k x ho =>
  obtain ⟨h0,h1,h2,h3,h4,h⟩:=h
  unfold z9d at h
  split at h
  ·rename_i q hq
   split at h
   ·rename_i s hs
    unfold zut at h
    split at h
    ·rename_i l hl
     obtain ⟨b,hb,hml⟩:=Option.bind_eq_some_iff.1 hl
     obtain rfl:=ztb hml
     exact ⟨_,.inl ⟨rfl,zt8 ho h0 h1 h2 h3 h4 hq hs hb h.1⟩,.wr (by unfold dom;rw [hb];simp) h.2.1,h.2.2⟩
    ·exact h.elim
   ·exact h.elim
  ·exact h.elim
 case h_26 T x i ok ho =>
  obtain ⟨h0,h1,h2,h3,h⟩:=h
  subst h2
  unfold lkX at h
  split at h
  ·rename_i q hq
   split at h
   ·rename_i s hs
    unfold jck at h
    split at h
    ·rename_i l hl
     obtain ⟨b,hb,hml⟩:=Option.bind_eq_some_iff.1 hl
     obtain rfl:=ztb hml
     split at h
     ·rename_i v hv
      exact ⟨_,.inl ⟨rfl,zt9 ho h0 h1 h3 hq hs hb hv h.1⟩,.val,h.2⟩
     ·exact h.elim
    ·exact h.elim
   ·exact h.elim
  ·exact h.elim
 case h_27 cs b ho=>exact h.elim
 case h_28 x ho =>
  obtain ⟨h0,h⟩:=h
  unfold ncX at h
  split at h
  ·rename_i k oo hg
   exact ⟨_,.inl ⟨rfl,zn8 ho h0 hg⟩,.val,h⟩
  ·exact h.elim
 case h_29 T x y ho =>
  obtain ⟨h0,h1,h⟩:=h
  unfold msU at h
  split at h
  ·rename_i e hu
   unfold msM at h
   split at h
   ·rename_i m hm
    unfold msZ at h
    split at h
    ·rename_i z b l hz hb hx
     obtain ⟨hy,h2,h3,h4,h5,h6,h⟩:=h
     exact ⟨_,.inl ⟨rfl,zms ho h0 h1 hx hy hu hm hz hb h2 h3 h4.1 h4.2 h5 h6⟩,.new,h⟩
    ·exact h.elim
   ·exact h.elim
  ·exact h.elim
 case h_30 hns =>
  obtain ⟨h1,v,hv,hr,hC⟩:=h
  exact ⟨_,.inl ⟨rfl,zmt (λcs b e=>by simp_all) h1 hv hr⟩,.val,hC⟩

theorem z3y {C:Ctx} {n:Nat} {d:List Deferred} {ro:Option Nat} (hGF:zbm C.G) (hR:∀ y,C.Y=some y->zgg P C.G C.E y):z76 P C n d ro (okp P C.Y):=by
 intro o e ts hp yc r a W m next Q h hd hok hws hns hn hp'
 rcases hok with ⟨h1,h2⟩|⟨h1,y,f,args,T,h2,h3,h4,h5,h6,h7,h8,rfl⟩
 ·rw [h1] at hn
  exact z42 h hd h2 hws hns hn (λpv W' hpn hi=>hp' pv W' yc hpn hi)
 ·have evT:∀ {x:Operand},okT ts x->za0 (gev ts x)=true->a.eval x=gev ts x:=λ{x} hk hf=>by
   cases x with
   | tmp t =>
    have:=((h.rel t).resolve_left (jfz hk)).1
    rw [zax (by exact hf)] at this
    exact this
   | const v=>rfl
   | func f=>rfl
   | global g=>exact hk.elim
  have hfv:a.eval f=.func (.yield y.l) #[] #[]:=by rw [evT h4 (by rw [h6];simp [za0,zhe,zbj]),h6]
  have hargs:args.map a.eval=args.map (gev ts):=Array.map_congr_left λx hx=>evT (h5 x (by simpa using hx)).1 (h5 x (by simpa using hx)).2
  obtain ⟨S,ms,hX,hS1,hS2,hd1,hd2⟩:=h.ext
  have gsame:∀ {W':World},GOK C.G W'->∀ k b,k<100->hp k=some b->W'.heap[r k]? = some (b.obj r):=λ{W'} hg k b hk hb=>by
   have e1:r k=k:=h.low k hk (by unfold dom;rw [hb];simp)
   have e2:C.G k=some b:=by rw [<-h.glob k hk];exact hb
   rw [e1,hg k b e2]
   rw [Blk.obj_flat (λx hx=>(hGF k b e2).2 x hx)]
  have hgok:GOK C.G W:=λk b hk=>by
   obtain ⟨hlt,hfl⟩:=hGF k b hk
   have hb:hp k=some b:=(h.glob k hlt).trans hk
   have h9:=(h.sat k b hb).1
   rw [h.low k hlt (by unfold dom;rw [hb];simp)] at h9
   rw [h9]
   rw [Blk.obj_flat (λx hx=>hfl x hx)]
  obtain ⟨fn,tmps,assign,body,hy,hround⟩:=hR y h2 yc _ S W hgok h8 h7 hX hS1
  have hrun:(execOp a.eval o).run P W=.ok (.round y.l fn tmps assign body) W:=by
   simp [execOp,h3,resolve,hfv,Deferred.ofValue,invoke,hargs,hy]
  refine ⟨zsh hrun,?_⟩
  have e:(Fw P ro).round=ro:=rfl
  rw [e,Oper.semAt_eq ro a.eval o hd.2,hrun]
  refine ⟨λh=>(by cases h),?_⟩
  have hround':RoundIn (Fw P ro) (m - 1) P _ _ _ _ _ _ _:=⟨hround.1,λc cs _=>hround.2 c cs (ze4 P _)⟩
  refine RoundIn.mono hround' ?_
  rintro e' W' ⟨hend,hgok',hsz,hsame,S',hX',hS1',hS2'⟩
  have base:RI C n d r ts hp (yc+1) a W' :=
   { h with
    sat:=λk b hk=>by
     have hdk:dom hp k:=by unfold dom;rw [hk];simp
     have:=h.sat k b hk
     refine ⟨?_,this.2⟩
     by_cases hk1:k<100
     ·exact gsame hgok' k b hk1 hk
     ·exact (hsame _ (h.lt hdk) (hS2 k hdk (by omega))).trans this.1
    ext:=⟨S',ms,hX',hS1',λi hi h1i hS=>hS2 i hi h1i (hS2' _ hS (h.lt hi)),hd1,λD hD=>by
     have hlt:=(Array.getElem?_eq_some_iff.1 (hd2 D hD).1).1
     exact ⟨(hsame D hlt (hd2 D hD).2.1).trans (hd2 D hD).1,λhS=>(hd2 D hD).2.1 (hS2' D hS hlt),(hd2 D hD).2.2⟩⟩ }
  have heff:jbm y yc=match y.pan yc with
   | none=>⟨.bool (yc != y.stop),[],[],[],none,true⟩
   | some pv=>⟨zbz,[],[],[],some pv,true⟩:=rfl
  cases hpn:y.pan yc with
  | none =>
   rw [hpn] at hend heff
   simp only at hend heff
   subst hend
   refine hn r _ W' (by rw [heff]) ?_
   have:=base.put hd.1 (v:=.bool (yc != y.stop)) (by trivial)
   rw [heff]
   simpa [ren,zas,zan,zao,zaw] using this
  | some pv =>
   rw [hpn] at hend heff
   simp only at hend heff
   subst hend
   exact hp' pv W' (yc+1) (by rw [heff]) base

end
end Go.Gy
