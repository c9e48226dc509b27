/-
  Lemmas of this claim, in their order (GyA, GyB, GyC, GyD, GyB2, GyMP).
  Conditions: those of each theorem.
-/
import Derived.Orders
import Derived.Still
import Derived.Below
import Derived.RangeFuncRecord
import Derived.Tactics2
import Derived.TacticsIn
import Derived.OrdersIn
import Derived.RangeFuncLeaves
import Derived.RangeFuncSeq
import Derived.FollowTie
import Derived.RegionTactic
import Derived.Deep.MidRow
import Derived.ChangeKeysEq
import Derived.Laws.StructEq
import Derived.Laws.Cover3
import Derived.MapKept
set_option linter.unusedSimpArgs false
set_option linter.unusedVariables false
namespace Go.Gy
open Go Go.RowKit

inductive BTy
 | ty (t:TypeId)
 | raw (t:TypeId) (fr:Nat×Nat)
 | mp
def BTy.own:BTy->Bool
 | .ty _=>true
 | .raw _ _=>false
 | .mp=>false
def BTy.rd:BTy->Bool
 | .mp=>false
 | _=>true
@[simp] theorem BTy.own_ty (t:TypeId):BTy.own (.ty t)=true:=rfl
instance:Coe TypeId BTy:=⟨.ty⟩
structure Blk where
 c:Array Value
 T:BTy

abbrev Hp:=Nat->Option Blk

def upd {α:Type} (f:Nat->α) (k:Nat) (v:α):Nat->α:=λj=>if j=k then v else f j

theorem za4 {α:Type} (f:Nat->α) (k:Nat) (v:α):upd f k v k=v:=by simp [upd]
theorem zaa {α:Type} (f:Nat->α) {k j:Nat} (v:α) (h:j≠k):upd f k v j=f j:=by simp [upd,h]
theorem zmg {α:Type} (f:Nat->α) {k l:Nat} (u v:α) (h:k≠l):upd (upd f k u) l v=upd (upd f l v) k u:=by
 funext j;unfold upd;by_cases h1:j=l<;>by_cases h2:j=k<;>simp_all

def zam (r:Nat->Nat):Value->Value
 | .pointer (some a)=>.pointer (some { a with block:=r a.block })
 | .slice (some a) n c=>.slice (some { a with block:=r a.block }) n c
 | .map (some b)=>.map (some (r b))
 | v=>v
def zaj (r:Nat->Nat):Value->Value
 | .func fn first cap=>.func fn (first.map (zam r)) (cap.map (zam r))
 | .iface t v=>.iface t (zam r v)
 | v=>zam r v
def zay (r:Nat->Nat):Value->Value
 | .agg cs=>.agg (cs.map (zaj r))
 | v=>zaj r v
def ren (r:Nat->Nat):Value->Value
 | .tuple vs=>.tuple (vs.map (zay r))
 | v=>zay r v

def zal (D:Nat->Prop):Value->Prop
 | .pointer (some a)=>D a.block
 | .slice (some a) _ _=>D a.block
 | .map (some b)=>D b
 | _=>True
def zah (D:Nat->Prop):Value->Prop
 | .func _ first cap=>(∀ x∈first,zal D x)/\(∀ x∈cap,zal D x)
 | .iface _ v=>zal D v
 | v=>zal D v
def za0 (D:Nat->Prop):Value->Prop
 | .agg cs=>∀ x∈cs,zah D x
 | v=>zah D v
def zan (D:Nat->Prop):Value->Prop
 | .tuple vs=>∀ x∈vs,za0 D x
 | v=>za0 D v

section congr
variable {D D':Nat->Prop} {r r':Nat->Nat}
theorem zfu (h:∀ k,D k->D' k):∀ {v:Value},zal D v->zal D' v:=by
 intro v;unfold zal;split<;>first|exact h _|exact id
theorem zet (h:∀ k,D k->D' k):∀ {v:Value},zah D v->zah D' v:=by
 intro v
 unfold zah
 split
 ·exact λ⟨a,b⟩=>⟨λx hx=>zfu h (a x hx),λx hx=>zfu h (b x hx)⟩
 ·exact zfu h
 ·exact zfu h
theorem znt (h:∀ k,D k->D' k):∀ {v:Value},za0 D v->za0 D' v:=by
 intro v;unfold za0;split
 ·exact λa x hx=>zet h (a x hx)
 ·exact zet h
theorem zce (h:∀ k,D k->D' k):∀ {v:Value},zan D v->zan D' v:=by
 intro v;unfold zan;split
 ·exact λa x hx=>znt h (a x hx)
 ·exact znt h
theorem zf9 (h:∀ k,D k->r' k=r k):∀ {v:Value},zal D v->zam r' v=zam r v:=by
 intro v;unfold zal;split<;>intro hd<;>simp_all [zam]
theorem zga (h:∀ k,D k->r' k=r k):∀ {v:Value},zah D v->zaj r' v=zaj r v:=by
 intro v hv
 unfold zah at hv
 split at hv
 ·obtain ⟨a,b⟩:=hv
  simp only [zaj]
  rw [Array.map_congr_left (λx hx=>zf9 h (a x hx)),Array.map_congr_left (λx hx=>zf9 h (b x hx))]
 ·simp only [zaj];rw [zf9 h hv]
 ·rename_i h1 h2
  unfold zaj
  split
  ·exact absurd rfl (h1 _ _ _)
  ·exact absurd rfl (h2 _ _)
  ·exact zf9 h hv
theorem zku (h:∀ k,D k->r' k=r k):∀ {v:Value},za0 D v->zay r' v=zay r v:=by
 intro v hv
 unfold za0 at hv
 split at hv
 ·simp only [zay]
  rw [Array.map_congr_left (λx hx=>zga h (hv x hx))]
 ·rename_i h1
  unfold zay
  split
  ·exact absurd rfl (h1 _)
  ·exact zga h hv
theorem zcn (h:∀ k,D k->r' k=r k):∀ {v:Value},zan D v->ren r' v=ren r v:=by
 intro v hv
 unfold zan at hv
 split at hv
 ·simp only [ren]
  rw [Array.map_congr_left (λx hx=>zku h (hv x hx))]
 ·rename_i h1
  unfold ren
  split
  ·exact absurd rfl (h1 _)
  ·exact zku h hv
end congr

def mpL:List Value->Nat->List MapEntry
 | k::v::l,i=>⟨k,v,i⟩::mpL l (i+1)
 | _,_=>[]
def z59 (c:Array Value):Obj:=.map (mpL c.toList 0).toArray (mpL c.toList 0).length
def Blk.obj (r:Nat->Nat) (b:Blk):Obj:=match b.T with
 | .ty t=>.cells (b.c.map (zaj r)) t (0,0)
 | .raw t fr=>.cells b.c t fr
 | .mp=>z59 (b.c.map (zaj r))
def Blk.obj0 (b:Blk):Obj:=match b.T with
 | .ty t=>.cells b.c t (0,0)
 | .raw t fr=>.cells b.c t fr
 | .mp=>z59 b.c
def Blk.ids (D:Nat->Prop) (b:Blk):Prop:=match b.T with
 | .ty _=>∀ x∈b.c,zah D x
 | .raw _ _=>True
 | .mp=>∀ x∈b.c,zah D x
theorem Blk.ids_of {D:Nat->Prop} {b:Blk} (h:∀ x∈b.c,zah D x):b.ids D:=by
 unfold Blk.ids;split
 ·exact h
 ·trivial
 ·exact h
theorem Blk.obj_congr {D:Nat->Prop} {r r':Nat->Nat} (h:∀ k,D k->r' k=r k) {b:Blk} (hb:b.ids D):b.obj r'=b.obj r:=by
 obtain ⟨c,T⟩:=b
 cases T with
 | ty t =>
  unfold Blk.obj
  simp only
  rw [Array.map_congr_left (λx hx=>zga h (hb x hx))]
 | raw t fr=>rfl
 | mp =>
  unfold Blk.obj
  simp only
  rw [Array.map_congr_left (λx hx=>zga h (hb x hx))]
theorem Blk.ids_mono {D D':Nat->Prop} (h:∀ k,D k->D' k) {b:Blk} (hb:b.ids D):b.ids D':=by
 obtain ⟨c,T⟩:=b
 cases T with
 | ty t=>exact λx hx=>zet h (hb x hx)
 | raw t fr=>trivial
 | mp=>exact λx hx=>zet h (hb x hx)

theorem Blk.obj_loop {r:Nat->Nat} {b:Blk} {L:Loop} (h:some (Obj.loop L)=some (b.obj r)):False:=by
 obtain ⟨c,T⟩:=b
 cases T<;>cases h
theorem Blk.obj_def {r:Nat->Nat} {b:Blk} {x:Option (List Deferred)} (h:some (Obj.deferred x)=some (b.obj r)):False:=by
 obtain ⟨c,T⟩:=b
 cases T<;>cases h
theorem Blk.obj0_def {b:Blk} {x:Option (List Deferred)} (h:some (Obj.deferred x)=some b.obj0):False:=by
 obtain ⟨c,T⟩:=b
 cases T<;>cases h
def dom (hp:Hp):Nat->Prop:=λk=>hp k≠none

def zcj:Value:=.complex .f32 0 1

def Rel (r:Nat->Nat) (D:Nat->Prop) (ts:Nat->Value) (a:Act):Prop :=
 ∀ t,ts t=zcj\/(a.tmps.getD t undef=ren r (ts t)/\zan D (ts t))

def Sat (r:Nat->Nat) (D:Nat->Prop) (hp:Hp) (W:World):Prop :=
 ∀ k b,hp k=some b->W.heap[r k]? = some (b.obj r)/\b.ids D
def Inj (r:Nat->Nat) (D:Nat->Prop):Prop:=∀ k l,D k->D l->r k=r l->k=l

theorem Rel.mono {r r':Nat->Nat} {D D':Nat->Prop} {ts:Nat->Value} {a:Act} (h:Rel r D ts a) (hD:∀ k,D k->D' k) (hr:∀ k,D k->r' k=r k):Rel r' D' ts a :=
 λt=>(h t).imp id λh=>⟨by rw [h.1,zcn hr h.2],zce hD h.2⟩

def zcq (ts:Nat->Value) (dst:Option Tmp) (v:Value):Nat->Value :=
 match dst with
 | some d=>upd ts d v
 | none=>ts

theorem Rel.put {r:Nat->Nat} {D:Nat->Prop} {ts:Nat->Value} {a:Act} (h:Rel r D ts a) {dst:Option Tmp} (hd:∀ d,dst=some d->d<a.tmps.size) {v:Value} (hv:zan D v) :
  Rel r D (zcq ts dst v) (a.put dst (ren r v)):=by
 cases dst with
 | none=>exact h
 | some d =>
  intro t
  have hlt:=hd d rfl
  by_cases e:t=d
  ·subst e
   simp only [zcq,za4]
   exact .inr ⟨by simp [Act.put,hlt],hv⟩
  ·simp only [zcq,zaa _ _ e]
   refine (h t).imp id λh=>⟨?_,h.2⟩
   rw [<-h.1]
   simp [Act.put,Array.getElem?_setIfInBounds_ne (Ne.symm e)]

theorem zb9 (r:Nat->Nat):ren r undef=undef:=by simp [undef,ren]
theorem zcl (D:Nat->Prop):zan D undef:=by simp [undef,zan]


structure Eff where
  v : Value
  rs : List Nat
  ws : List (Nat × Blk)
  ns : List (Nat × Blk)
  pan : Option Value
  yl : Bool

def zab (l : List (Nat × Blk)) : List Nat := l.map (·.1)
theorem zad {l : List (Nat × Blk)} {k : Nat} : k ∈ zab l ↔ ∃ p ∈ l, p.1 = k := by simp [zab]

def zbb (hp : Hp) : List (Nat × Blk) -> Hp
  | [] => hp
  | (k, b) :: l => zbb (upd hp k (some b)) l

theorem za6 {l : List (Nat × Blk)} : ∀ {hp : Hp} {k : Nat}, k ∉ zab l -> zbb hp l k = hp k := by
  induction l with
  | nil => intro hp k _; rfl
  | cons p l ih =>
    intro hp k hk
    obtain ⟨q, b⟩ := p
    simp only [zab, List.map_cons, List.mem_cons, not_or] at hk
    simp only [zbb]
    rw [ih (by simpa [zab] using hk.2), zaa _ _ hk.1]

theorem zda {l : List (Nat × Blk)} : ∀ {hp : Hp} {k : Nat} {b : Option Blk}, k ∉ zab l -> zbb (upd hp k b) l = upd (zbb hp l) k b := by
  induction l with
  | nil => intro hp k b _; rfl
  | cons p l ih =>
    intro hp k b hk
    obtain ⟨q, c⟩ := p
    simp only [zab, List.map_cons, List.mem_cons, not_or] at hk
    simp only [zbb]
    rw [zmg _ _ _ hk.1, ih (by simpa [zab] using hk.2)]

theorem zxr {l m : List (Nat × Blk)} : ∀ {hp : Hp}, (∀ k ∈ zab l, k ∉ zab m) -> zbb (zbb hp l) m = zbb (zbb hp m) l := by
  induction l with
  | nil => intro hp _; rfl
  | cons p l ih =>
    intro hp h
    obtain ⟨q, c⟩ := p
    simp only [zbb]
    rw [ih (λk hk => h k (by simp [zab] at hk |-; exact .inr hk)), zda (h q (by simp [zab]))]

theorem zi2 {l : List (Nat × Blk)} : ∀ {hp : Hp} {k : Nat}, dom (zbb hp l) k ↔ dom hp k \/ k ∈ zab l := by
  induction l with
  | nil => intro hp k; simp [zbb, zab]
  | cons p l ih =>
    intro hp k
    obtain ⟨q, c⟩ := p
    simp only [zbb]
    rw [ih]
    by_cases e : k = q
    · subst e; simp [dom, za4, zab]
    · simp [dom, zaa _ _ e, zab, e]

theorem zrl {l : List (Nat × Blk)} : ∀ {hp : Hp} {k : Nat} {b : Blk}, zbb hp l k = some b -> (hp k = some b /\ k ∉ zab l) \/ (k, b) ∈ l := by
  induction l with
  | nil => intro hp k b h; exact .inl ⟨h, by simp [zab]⟩
  | cons p l ih =>
    intro hp k b h
    obtain ⟨q, c⟩ := p
    simp only [zbb] at h
    rcases ih h with ⟨h1, h2⟩ | h1
    · by_cases e : k = q
      · subst e; rw [za4] at h1; cases h1; exact .inr (by simp)
      · rw [zaa _ _ e] at h1; exact .inl ⟨h1, by simp [zab, e] at h2 |-; exact h2⟩
    · exact .inr (List.mem_cons_of_mem _ h1)

def rst (hp : Hp) (rs : List Nat) : Hp := λk => if k < 100 \/ k ∈ rs then hp k else none
theorem zcy {hp : Hp} {rs : List Nat} {k : Nat} {b : Blk} (h : rst hp rs k = some b) : hp k = some b := by
  unfold rst at h; split at h
  · exact h
  · cases h
theorem zd6 {hp hp' : Hp} {rs : List Nat} (h : ∀ k, (k < 100 \/ k ∈ rs) -> hp k = hp' k) : rst hp rs = rst hp' rs := by
  funext k; unfold rst; split
  · rename_i hk; exact h k hk
  · rfl

def zcu (D : Nat -> Prop) (ns : List (Nat × Blk)) : Nat -> Prop := λk => D k \/ k ∈ zab ns

structure Turn (r' : Nat -> Nat) (D' : Nat -> Prop) (W W' : World) (ws ns : List (Nat × Blk)) : Prop where
  os : W'.os = W.os
  tape : W'.tape = W.tape
  output : W'.output = W.output
  size : W.heap.size <= W'.heap.size
  same : ∀ k, k < W.heap.size -> (∀ p ∈ ws, r' p.1 ≠ k) -> W'.heap[k]? = W.heap[k]?
  has : ∀ p ∈ ws ++ ns, W'.heap[r' p.1]? = some (p.2.obj r') /\ p.2.ids D'
  fresh : ∀ p ∈ ns, W.heap.size <= r' p.1
  apart : ∀ p ∈ ns, ∀ q ∈ ns, r' p.1 = r' q.1 -> p.1 = q.1

theorem Turn.of_below {r : Nat -> Nat} {D : Nat -> Prop} {W W' : World} (h : Below W.heap.size W W') : Turn r D W W' [] [] :=
  ⟨h.os, h.tape, h.output, h.size, λk hk _ => h.block k hk, λp hp => by simp at hp, λp hp => by simp at hp, λp hp => by simp at hp⟩

def Fs (P : Program) : Fence := { fn := λf => ∃ fn, P.funcs[f]? = some fn, depth := none, alive := false }
abbrev zdw (P : Program) (f : FuncId) (args : Array Value) (W : World) (R : Ending -> World -> Prop) : Prop := CallsIn (Fs P) 0 P f args W R
theorem zdw.mono {P : Program} {f : FuncId} {args : Array Value} {W : World} {R R' : Ending -> World -> Prop} (h : zdw P f args W R) (hr : ∀ e w, R e w -> R' e w) : zdw P f args W R' := CallsIn.mono h hr
theorem zdt (P : Program) (n : Nat) : (Fs P).room n := λ_ h => by simp [Fs] at h
theorem zdw.calls {P : Program} {f : FuncId} {args : Array Value} {W : World} {R : Ending -> World -> Prop} (h : zdw P f args W R) : Calls P f args W R := λcs => by
  obtain ⟨e, w', fr, r, s, x⟩ := h.2 cs (zdt P _)
  refine ⟨e, w', fr, r, ?_, x⟩
  cases e with
  | returned v => exact stepsIn_wide.1 (StepsIn.mono (λm _ => fenced_wide P m) s)
  | panicked ch => exact stepsIn_wide.1 (StepsIn.mono (λm _ => fenced_wide P m) s)
  | outgrown => exact s
theorem ze1 {P : Program} {f : FuncId} {args : Array Value} {W W' : World} {x : Next} (h : (callFunc f args).run P W = .ok x W') : ∃ fn, P.funcs[f]? = some fn := by
  unfold callFunc at h
  simp only [Sem.run_bind, run_program, Result.andThen_ok] at h
  cases hf : P.funcs[f]? with
  | none => simp [hf, stuck] at h
  | some fn => exact ⟨fn, rfl⟩

theorem zqc {P : Program} {o : Oper} {ρ : Operand -> Value} {W W' : World} {x : Next} (h : (execOp ρ o).run P W = .ok x W') : ∀ f, o.about P W ρ = some f -> (Fs P).fn f := by
  intro f hf
  unfold Oper.about at hf
  unfold execOp at h
  split at hf
  · rename_i c hc
    simp only [hc, Sem.run_bind] at h
    cases hr : (resolve ρ c o.type).run P W with
    | halt y w => rw [hr] at hf; cases hf
    | ok dd w =>
      rw [hr] at hf h
      simp only [Result.andThen_ok] at h
      have ht := invoke_tie P w dd.target dd.args
      have hf' : dd.target.leads P w dd.args = some f := hf
      split at ht
      all_goals first
        | (rcases ht with ⟨g, args', w', h1, h2⟩ | ⟨y, w', h2⟩
           · rw [hf'] at h1
             cases h1
             rw [h2] at h
             exact ze1 h
           · rw [h2] at h
             cases h)
        | (rw [ht] at hf'; cases hf')
  · cases hf

def zjx (P : Program) (o : Oper) (a : Act) (W : World) (R Rp : Value -> World -> Prop) : Prop :=
  match (execOp a.eval o).run P W with
  | .ok (.value u) W' => R u W'
  | .ok .skip W' => R undef W'
  | .ok (.enter f args) W' => zdw P f args W' (λe W'' => match e with
      | .returned u => R u W''
      | .panicked ch => ∃ pv, ch = [{ v := pv, recovered := false }] /\ Rp pv W''
      | .outgrown => False)
  | .halt (.panic pv) W' => o.about P W a.eval = none /\ Rp pv W'
  | _ => False

def zo0 (o : Oper) (r : Nat -> Nat) (D : Nat -> Prop) (ts : Nat -> Value) (a : Act) : Prop :=
  ∀ t, Operand.tmp t ∈ o.op.operands -> ts t = zcj \/ (a.tmps.getD t undef = ren r (ts t) /\ zan D (ts t))

def OpD (P : Program) (o : Oper) (ts : Nat -> Value) (hp : Hp) (e : Eff) : Prop :=
  ∀ r D a W, zo0 o r D ts a -> Sat r D hp W -> Inj r D -> (∀ k, k < 100 -> D k -> r k = k) -> (∀ k, dom hp k -> D k) -> (∀ p ∈ e.ns, ¬ D p.1 /\ 100 <= p.1) ->
    zjx P o a W (λu W' => e.pan = none /\ ∃ r', (∀ k, D k -> r' k = r k) /\ u = ren r' e.v /\ zan (zcu D e.ns) e.v /\ Turn r' (zcu D e.ns) W W' e.ws e.ns)
      (λpv W' => e.pan = some pv /\ Below W.heap.size W W')

structure OKP where
  ok : Oper -> (Nat -> Value) -> Nat -> Hp -> Eff -> Prop
  congr : ∀ o ts ts' yc yc' hp e, (∀ t, Operand.tmp t ∈ o.op.operands -> ts t = ts' t) -> (e.yl = true -> yc = yc') -> ok o ts yc hp e -> ok o ts' yc' hp e
  yw : ∀ o ts yc hp e o' ts' yc' hp' e', ok o ts yc hp e -> ok o' ts' yc' hp' e' -> e.yl = true -> e'.yl = true -> zab e.ws = zab e'.ws
  un : Oper -> (Nat -> Value) -> Prop
  uncongr : ∀ o ts ts', (∀ t, Operand.tmp t ∈ o.op.operands -> ts t = ts' t) -> un o ts -> un o ts'

theorem zhh (ts : Nat -> Value) {x y : Option Tmp} (u v : Value) (h : ∀ d, x = some d -> y ≠ some d) : zcq (zcq ts x u) y v = zcq (zcq ts y v) x u := by
  cases x with
  | none => rfl
  | some d =>
    cases y with
    | none => rfl
    | some e => exact zmg _ _ _ (λhe => h d rfl (by rw [he]))
theorem zkt (ts : Nat -> Value) {x : Option Tmp} {t : Nat} (v : Value) (h : ∀ d, x = some d -> t ≠ d) : zcq ts x v t = ts t := by
  cases x with
  | none => rfl
  | some d => exact zaa _ _ (h d rfl)

structure St where
  ts : Nat -> Value
  hp : Hp
  lg : Nat -> List Nat × List Nat
  yc : Nat
  yd : Bool
  pn : Option Value
  wr : Bool

def St.after (s : St) (i : Nat) (o : Oper) (e : Eff) : St :=
  { ts := zcq s.ts o.dst e.v, hp := zbb s.hp (e.ws ++ e.ns), lg := upd s.lg i (e.rs, zab e.ws ++ zab e.ns), yc := if e.yl then s.yc + 1 else s.yc, yd := s.yd || (e.yl && e.ws.isEmpty), pn := s.pn.or e.pan, wr := s.wr || !e.ws.isEmpty }
def St.pass (s : St) (o : Oper) : St := { s with ts := zcq s.ts o.dst undef }

def zbv (ops : Array Oper) (o : Oper) (ts : Nat -> Value) : Option Bool :=
  match o.guard with
  | none => some true
  | some (j, w) =>
    match (ops[j]?).bind (·.dst) with
    | some d => match ts d with
      | .bool b => some (b == w)
      | .tuple _ => some false
      | _ => none
    | none => some false

def zrm (md : Region.Mode) (ops : Array Oper) : Nat -> Nat -> Nat -> Bool
  | 0, _, _ => false
  | f + 1, i, j => match ops[i]? with
    | some o => o.after.any λe => Region.binds md e && (e.on == j || zrm md ops f e.on j)
    | none => false
def zij (md : Region.Mode) (ops : Array Oper) (i j : Nat) : Bool := zrm md ops 3 i j

structure Fits (md : Region.Mode) (ops : Array Oper) (base i : Nat) (s : St) (e : Eff) : Prop where
  wsrs : ∀ k ∈ zab e.ws, k ∈ e.rs /\ dom s.hp k /\ 100 <= k
  ids : ∀ k ∈ zab e.ns, base + 8 * i <= k /\ k < base + 8 * i + 8 /\ 100 <= k
  nodup : ∀ k ∈ zab e.ns, s.hp k = none
  once : ∀ k b c, (k, b) ∈ e.ws ++ e.ns -> (k, c) ∈ e.ws ++ e.ns -> b = c
  log : ∀ j, zij md ops i j = false -> (∀ k ∈ e.rs ++ zab e.ns, k ∉ (s.lg j).2) /\ (∀ k ∈ zab e.ws ++ zab e.ns, k ∉ (s.lg j).1)
  new : s.lg i = ([], [])
  pan : e.pan ≠ none -> s.pn = none
  yl : e.yl = true -> e.ws = [] -> s.yd = false

def gOp (OK : OKP) (md : Region.Mode) (ops : Array Oper) (base i : Nat) (K : St -> Prop) (s : St) : Prop :=
  match ops[i]? with
  | none => K s
  | some o => match zbv ops o s.ts with
    | some true => ∃ e, OK.ok o s.ts s.yc (rst s.hp e.rs) e /\ Fits md ops base i s e /\ K (s.after i o e)
    | some false => OK.un o s.ts /\ K (s.pass o)
    | none => False

def zk4 (OK : OKP) (md : Region.Mode) (ops : Array Oper) (base : Nat) (K : St -> Prop) : Nat -> Array Bool -> St -> Prop
  | 0, listed, s => Region.ready md ops listed = [] /\ K s
  | fuel + 1, listed, s =>
    (Region.ready md ops listed = [] -> K s) /\
    ∀ i ∈ Region.ready md ops listed, gOp OK md ops base i (zk4 OK md ops base K fuel (listed.setIfInBounds i true)) s

def zfd (OK : OKP) (md : Region.Mode) (ops : Array Oper) (base i : Nat) (o : Oper) (e : Option Eff) (s : St) : Prop :=
  match e with
  | some e => zbv ops o s.ts = some true /\ OK.ok o s.ts s.yc (rst s.hp e.rs) e /\ Fits md ops base i s e
  | none => zbv ops o s.ts = some false /\ OK.un o s.ts

def St.next (s : St) (i : Nat) (o : Oper) : Option Eff -> St
  | some e => s.after i o e
  | none => s.pass o

theorem zie {OK : OKP} {md : Region.Mode} {ops : Array Oper} {base i : Nat} {o : Oper} {e : Option Eff} {s : St} {K : St -> Prop} (hi : ops[i]? = some o) (hy : zfd OK md ops base i o e s) (h : K (s.next i o e)) :
    gOp OK md ops base i K s := by
  unfold gOp; simp only [hi]
  cases e with
  | some e => obtain ⟨h1, h2, h3⟩ := hy; simp only [h1]; exact ⟨e, h2, h3, h⟩
  | none => simp only [zfd] at hy; simp only [hy.1]; exact ⟨hy.2, h⟩

theorem zkk {OK : OKP} {md : Region.Mode} {ops : Array Oper} {base i : Nat} {o : Oper} {s : St} {K : St -> Prop} (hi : ops[i]? = some o) (h : gOp OK md ops base i K s) :
    ∃ e, zfd OK md ops base i o e s /\ K (s.next i o e) := by
  unfold gOp at h; simp only [hi] at h
  cases hw : zbv ops o s.ts with
  | none => rw [hw] at h; exact h.elim
  | some b =>
    cases b with
    | true => rw [hw] at h; obtain ⟨e, h1, h2, h3⟩ := h; exact ⟨some e, ⟨hw, h1, h2⟩, h3⟩
    | false => rw [hw] at h; exact ⟨none, ⟨hw, h.1⟩, h.2⟩

theorem zcb {ops : Array Oper} {o : Oper} {ts ts' : Nat -> Value} (h : ∀ t ∈ o.looksAt ops, ts t = ts' t) : zbv ops o ts = zbv ops o ts' := by
  unfold zbv
  cases hg : o.guard with
  | none => rfl
  | some g =>
    obtain ⟨j, w⟩ := g
    cases hd : (ops[j]?).bind (·.dst) with
    | none => simp [hd]
    | some d =>
      have : ts d = ts' d := h d (by simp [Oper.looksAt, hg, hd])
      simp [hd, this]

theorem OpD.congr {P : Program} {o : Oper} {ts ts' : Nat -> Value} {hp : Hp} {e : Eff} (h : OpD P o ts hp e) (ht : ∀ t, Operand.tmp t ∈ o.op.operands -> ts t = ts' t) : OpD P o ts' hp e :=
  λr D a W hr => h r D a W (λt ht' => by rw [ht t ht']; exact hr t ht')

theorem zbh {ops : Array Oper} {o : Oper} {t : Tmp} (h : Operand.tmp t ∈ o.op.operands) : t ∈ o.looksAt ops :=
  List.mem_append_left _ (List.mem_filterMap.2 ⟨.tmp t, by simpa using h, rfl⟩)

theorem zp4 {OK : OKP} {md : Region.Mode} {ops : Array Oper} {base i j : Nat} {oi oj : Oper} {ei ej : Option Eff} {s : St} (hne : i ≠ j)
    (hap : oi.apart ops oj = true) (hw : zij md ops j i = false) (hw' : zij md ops i j = false)
    (hy : zfd OK md ops base i oi ei s) (h : zfd OK md ops base j oj ej (s.next i oi ei)) :
    zfd OK md ops base j oj ej s /\ zfd OK md ops base i oi ei (s.next j oj ej) /\ (s.next i oi ei).next j oj ej = (s.next j oj ej).next i oi ei := by
  obtain ⟨h1, h2, h3⟩ := Oper.apart_spec hap
  have tsj : ∀ v, ∀ t ∈ oj.looksAt ops, zcq s.ts oi.dst v t = s.ts t := λv t ht => zkt _ _ (λd hd e => h1 d hd (e ▸ ht))
  have tsi : ∀ v, ∀ t ∈ oi.looksAt ops, zcq s.ts oj.dst v t = s.ts t := λv t ht => zkt _ _ (λd hd e => h3 d hd (e ▸ ht))
  cases ei with
  | none =>
    cases ej with
    | none =>
      refine ⟨?_, ?_, ?_⟩
      · simp only [zfd, St.next, St.pass] at h |-; rw [<- h.1]; exact ⟨zcb (λt ht => (tsj _ t ht).symm), OK.uncongr _ _ _ (λt ht => tsj _ t (zbh ht)) h.2⟩
      · simp only [zfd, St.next, St.pass] at hy |-; rw [<- hy.1]; exact ⟨zcb (λt ht => tsi _ t ht), OK.uncongr _ _ _ (λt ht => (tsi _ t (zbh ht)).symm) hy.2⟩
      · simp only [St.next, St.pass]; rw [zhh _ _ _ h2]
    | some e =>
      obtain ⟨a1, a2, a3⟩ := h
      refine ⟨⟨?_, ?_, ?_⟩, ?_, ?_⟩
      · rw [<- a1]; exact zcb (λt ht => (tsj _ t ht).symm)
      · exact OK.congr _ _ _ _ _ _ _ (λt ht => tsj _ t (zbh ht)) (λ_ => rfl) a2
      · exact ⟨a3.wsrs, a3.ids, a3.nodup, a3.once, a3.log, a3.new, a3.pan, a3.yl⟩
      · simp only [zfd, St.next, St.after] at hy |-; rw [<- hy.1]; exact ⟨zcb (λt ht => tsi _ t ht), OK.uncongr _ _ _ (λt ht => (tsi _ t (zbh ht)).symm) hy.2⟩
      · simp only [St.next, St.pass, St.after]; rw [zhh _ _ _ h2]
  | some e =>
    obtain ⟨b1, b2, b3⟩ := hy
    cases ej with
    | none =>
      refine ⟨?_, ⟨?_, ?_, ?_⟩, ?_⟩
      · simp only [zfd, St.next, St.after] at h |-; rw [<- h.1]; exact ⟨zcb (λt ht => (tsj _ t ht).symm), OK.uncongr _ _ _ (λt ht => tsj _ t (zbh ht)) h.2⟩
      · simp only [St.next, St.pass]; rw [<- b1]; exact zcb (λt ht => tsi _ t ht)
      · simp only [St.next, St.pass]; exact OK.congr _ _ _ _ _ _ _ (λt ht => (tsi _ t (zbh ht)).symm) (λ_ => rfl) b2
      · exact ⟨b3.wsrs, b3.ids, b3.nodup, b3.once, b3.log, b3.new, b3.pan, b3.yl⟩
      · simp only [St.next, St.pass, St.after]; rw [zhh _ _ _ h2]
    | some f =>
      obtain ⟨a1, a2, a3⟩ := h
      simp only [St.next, St.after] at a1 a2 a3
      have lgi : (upd s.lg i (e.rs, zab e.ws ++ zab e.ns)) i = (e.rs, zab e.ws ++ zab e.ns) := za4 _ _ _
      have hlog := a3.log i hw
      simp only [lgi] at hlog
      -- what e touches f does not turn, and the other way about
      have k1 : ∀ k ∈ f.rs ++ zab f.ns, k ∉ zab (e.ws ++ e.ns) := λk hk hm => hlog.1 k hk (by simpa [zab] using hm)
      have k2 : ∀ k ∈ zab (f.ws ++ f.ns), k ∉ e.rs := λk hk => hlog.2 k (by simpa [zab] using hk)
      have k3 : ∀ k ∈ zab (e.ws ++ e.ns), k ∉ zab (f.ws ++ f.ns) := λk hk hm => by
        have hm' : k ∈ zab f.ws \/ k ∈ zab f.ns := by simpa [zab] using hm
        rcases hm' with hm' | hm'
        · exact k1 k (List.mem_append_left _ (a3.wsrs k hm').1) hk
        · exact k1 k (List.mem_append_right _ hm') hk
      have big : ∀ k ∈ zab (e.ws ++ e.ns), 100 <= k := λk hk => by
        have : k ∈ zab e.ws \/ k ∈ zab e.ns := by simpa [zab] using hk
        rcases this with h | h
        · exact (b3.wsrs k h).2.2
        · exact (b3.ids k h).2.2
      have big' : ∀ k ∈ zab (f.ws ++ f.ns), 100 <= k := λk hk => by
        have : k ∈ zab f.ws \/ k ∈ zab f.ns := by simpa [zab] using hk
        rcases this with h | h
        · exact (a3.wsrs k h).2.2
        · exact (a3.ids k h).2.2
      have r1 : rst (zbb s.hp (e.ws ++ e.ns)) f.rs = rst s.hp f.rs := zd6 λk hk => za6 λhm => by
        rcases hk with hk | hk
        · have := big k hm; omega
        · exact k1 k (List.mem_append_left _ hk) hm
      have r2 : rst (zbb s.hp (f.ws ++ f.ns)) e.rs = rst s.hp e.rs := zd6 λk hk => za6 λhm => by
        rcases hk with hk | hk
        · have := big' k hm; omega
        · exact k2 k hm hk
      have lgj : s.lg j = ([], []) := by have := a3.new; dsimp only at this; rwa [zaa _ _ (Ne.symm hne)] at this
      have nb : f.yl = true -> e.yl = false := λhf => by
        cases he : e.yl with
        | false => rfl
        | true =>
          have hk := OK.yw _ _ _ _ _ _ _ _ _ _ b2 a2 he hf
          by_cases hw0 : f.ws = []
          · rw [hw0] at hk
            have he0 : e.ws = [] := by simpa [zab] using hk
            have := a3.yl hf hw0
            rw [he, he0] at this
            simp at this
          · obtain ⟨p, l, hp⟩ := List.exists_cons_of_ne_nil hw0
            have hm : p.1 ∈ zab f.ws := zad.2 ⟨p, by rw [hp]; simp, rfl⟩
            have h9 := k1 p.1 (List.mem_append_left _ (a3.wsrs p.1 hm).1)
            rw [<- hk] at hm
            exact absurd (by simp only [zab, List.map_append, List.mem_append]; exact .inl (by simpa [zab] using hm)) h9
      have yls : f.yl = true -> e.yl = false /\ (f.ws = [] -> s.yd = false) := λhf => ⟨nb hf, λhw0 => by
        have := a3.yl hf hw0; simp only [Bool.or_eq_false_iff] at this; exact this.1⟩
      have yls' : e.yl = true -> f.yl = false := λhe => by
        cases hf : f.yl with
        | false => rfl
        | true => rw [(yls hf).1] at he; cases he
      have pns : f.pan ≠ none -> e.pan = none /\ s.pn = none := λhf => by
        have := a3.pan hf; simp only [Option.or_eq_none_iff] at this; exact ⟨this.2, this.1⟩
      have pns' : e.pan ≠ none -> f.pan = none := λhe => by
        cases hf : f.pan with
        | none => rfl
        | some v => exact absurd (pns (by rw [hf]; simp)).1 he
      refine ⟨⟨?_, ?_, ?_⟩, ⟨?_, ?_, ?_⟩, ?_⟩
      · rw [<- a1]; exact zcb (λt ht => (tsj _ t ht).symm)
      · rw [<- r1]; exact OK.congr _ _ _ _ _ _ _ (λt ht => tsj _ t (zbh ht)) (λhf => by rw [(yls hf).1]; simp) a2
      · refine ⟨λk hk => ⟨(a3.wsrs k hk).1, ?_, (a3.wsrs k hk).2.2⟩, a3.ids, λk hk => ?_, a3.once, λq hq => ?_, lgj, λhf => (pns hf).2, λhf hw0 => (yls hf).2 hw0⟩
        · rcases zi2.1 (a3.wsrs k hk).2.1 with h | h
          · exact h
          · exact absurd h (k1 k (List.mem_append_left _ (a3.wsrs k hk).1))
        · have := a3.nodup k hk
          dsimp only at this
          rwa [za6 (k1 k (List.mem_append_right _ hk))] at this
        · by_cases hqi : q = i
          · subst hqi; rw [b3.new]; simp
          · have := a3.log q hq; dsimp only at this; rwa [zaa _ _ hqi] at this
      · simp only [St.next, St.after]; rw [<- b1]; exact zcb (λt ht => tsi _ t ht)
      · simp only [St.next, St.after]; rw [r2]; exact OK.congr _ _ _ _ _ _ _ (λt ht => (tsi _ t (zbh ht)).symm) (λhe => by rw [yls' he]; simp) b2
      · simp only [St.next, St.after]
        refine ⟨λk hk => ⟨(b3.wsrs k hk).1, zi2.2 (.inl (b3.wsrs k hk).2.1), (b3.wsrs k hk).2.2⟩, b3.ids, λk hk => ?_, b3.once, λq hq => ?_, ?_, λhe => ?_, λhe hw0 => ?_⟩
        · show zbb s.hp (f.ws ++ f.ns) k = none
          rw [za6 (λhm => k3 k (by simpa [zab] using Or.inr (by simpa [zab] using hk)) hm)]
          exact b3.nodup k hk
        · by_cases hqj : q = j
          · subst hqj
            simp only [za4]
            refine ⟨λk hk hm => ?_, λk hk hm => ?_⟩
            · rcases List.mem_append.1 hk with hk | hk
              · exact k2 k (by simpa [zab] using hm) hk
              · exact k3 k (by simp [zab] at hk |-; exact .inr hk) (by simpa [zab] using hm)
            · exact k1 k (List.mem_append_left _ hm) (by simpa [zab] using hk)
          · simp only [zaa _ _ hqj]; exact b3.log q hq
        · show upd s.lg j _ i = _
          rw [zaa _ _ hne]; exact b3.new
        · show s.pn.or f.pan = none
          rw [b3.pan he, pns' he]; rfl
        · show (s.yd || (f.yl && f.ws.isEmpty)) = false
          rw [b3.yl he hw0, yls' he]; rfl
      · simp only [St.next, St.after]
        rw [zhh _ _ _ h2, zxr k3, zmg _ _ _ hne, Bool.or_right_comm, Bool.or_right_comm s.wr]
        have e1 : (s.pn.or e.pan).or f.pan = (s.pn.or f.pan).or e.pan := by
          cases he : e.pan with
          | none => cases hf : f.pan <;> cases s.pn <;> rfl
          | some v => rw [pns' (by rw [he]; simp)]; cases s.pn <;> rfl
        have e2 : (if f.yl = true then (if e.yl = true then s.yc + 1 else s.yc) + 1 else if e.yl = true then s.yc + 1 else s.yc) = (if e.yl = true then (if f.yl = true then s.yc + 1 else s.yc) + 1 else if f.yl = true then s.yc + 1 else s.yc) := by
          cases e.yl <;> cases f.yl <;> rfl
        rw [e1, e2]

def zj4 (md : Region.Mode) (ops : Array Oper) (listed : Array Bool) : Prop :=
  ∀ k o, ops[k]? = some o -> listed.getD k false = true -> ∀ e ∈ o.after, Region.binds md e = true -> listed.getD e.on false = true
theorem jb2 {listed : Array Bool} {k : Nat} (h0 : listed.getD k true = false) (h1 : listed.getD k false = true) : False := by
  rcases Nat.lt_or_ge k listed.size with h' | h'
  · simp [h'] at h0 h1; rw [h0] at h1; cases h1
  · simp [Array.getElem?_eq_none h'] at h1
theorem zjs {md : Region.Mode} {ops : Array Oper} {listed : Array Bool} (hcl : zj4 md ops listed) {j : Nat} (hj : listed.getD j true = false) : ∀ (f i : Nat), (∀ o, ops[i]? = some o -> ∀ e ∈ o.after, Region.binds md e = true -> listed.getD e.on false = true) -> zrm md ops f i j = false
  | 0, _, _ => rfl
  | f + 1, i, h => by
    unfold zrm
    cases ho : ops[i]? with
    | none => rfl
    | some o =>
      simp only
      rw [Array.any_eq_false]
      intro k hk
      have hm : o.after[k] ∈ o.after := Array.getElem_mem hk
      cases hb : Region.binds md o.after[k] with
      | false => simp
      | true =>
        have hl := h o ho _ hm hb
        have hne : (o.after[k].on == j) = false := by
          rw [beq_eq_false_iff_ne]
          exact λe => jb2 hj (e ▸ hl)
        rw [hne, zjs hcl hj f _ (λo' ho' e he hb' => hcl _ o' ho' hl e he hb')]
        simp
theorem zj4.set {md : Region.Mode} {ops : Array Oper} {listed : Array Bool} (hcl : zj4 md ops listed) {j : Nat} (hj : j ∈ Region.ready md ops listed) : zj4 md ops (listed.setIfInBounds j true) := by
  have mono : ∀ {x : Nat}, listed.getD x false = true -> (listed.setIfInBounds j true).getD x false = true := λ{x} hx => by
    by_cases c : j = x
    · subst c
      rcases Nat.lt_or_ge j listed.size with h' | h'
      · simp [h']
      · simp [Array.getElem?_eq_none h'] at hx
    · rw [getD_set_ne false c]; exact hx
  intro k o hk hl e he hb
  by_cases c : j = k
  · subst c
    obtain ⟨_, oj, hoj, hall⟩ := mem_ready.1 hj
    rw [hk] at hoj
    cases hoj
    exact mono (hall e he hb)
  · rw [getD_set_ne false c] at hl
    exact mono (hcl k o hk hl e he hb)
theorem zoq {OK : OKP} {md : Region.Mode} {ops : Array Oper} {base : Nat} {K : St -> Prop} {i : Nat} {oi : Oper} {ei : Option Eff} (hi : ops[i]? = some oi) :
    ∀ (fuel : Nat) (listed : Array Bool) (s : St), zj4 md ops listed ->
      (∀ j oj, ops[j]? = some oj -> j ≠ i -> listed.getD j true = false -> (∀ e ∈ oj.after, Region.binds md e = true -> e.on ≠ i) -> oi.apart ops oj = true) ->
      i ∈ Region.ready md ops listed -> zfd OK md ops base i oi ei s ->
      zk4 OK md ops base K fuel (listed.setIfInBounds i true) (s.next i oi ei) -> zk4 OK md ops base K (fuel + 1) listed s := by
  intro fuel
  induction fuel with
  | zero =>
    intro listed s _ _ hr hy H
    refine ⟨λh => (by rw [h] at hr; cases hr), λj hj => ?_⟩
    by_cases hji : j = i
    · subst hji; exact zie hi hy H
    · have := ready_mono hj hji
      rw [H.1] at this
      cases this
  | succ fuel ih =>
    intro listed s hcl hfree hr hy H
    refine ⟨λh => (by rw [h] at hr; cases hr), λj hj => ?_⟩
    by_cases hji : j = i
    · subst hji; exact zie hi hy H
    · have h1 := H.2 j (ready_mono hj hji)
      obtain ⟨hjun, oj, hoj, hall⟩ := mem_ready.1 hj
      obtain ⟨hiun, oi', hoi', halli⟩ := mem_ready.1 hr
      rw [hi] at hoi'; cases hoi'
      have hnot : ∀ e ∈ oj.after, Region.binds md e = true -> e.on ≠ i := λe he hb heq => jb2 hiun (heq ▸ hall e he hb)
      have hw1 : zij md ops j i = false := zjs hcl hiun 3 j λo ho e he hb => by rw [hoj] at ho; cases ho; exact hall e he hb
      have hw2 : zij md ops i j = false := zjs hcl hjun 3 i λo ho e he hb => by rw [hi] at ho; cases ho; exact halli e he hb
      obtain ⟨ej, hyj, hK⟩ := zkk hoj h1
      obtain ⟨c1, c2, c3⟩ := zp4 (Ne.symm hji) (hfree j oj hoj hji hjun hnot) hw1 hw2 hy hyj
      have hfree' : ∀ k ok, ops[k]? = some ok -> k ≠ i -> (listed.setIfInBounds j true).getD k true = false ->
          (∀ e ∈ ok.after, Region.binds md e = true -> e.on ≠ i) -> oi.apart ops ok = true := λk ok hk hki hun hno => by
        refine hfree k ok hk hki ?_ hno
        by_cases hjk : j = k
        · subst hjk; exact hjun
        · rw [getD_set_ne true hjk] at hun; exact hun
      refine zie hoj c1 (ih (listed.setIfInBounds j true) _ (hcl.set hj) hfree' (ready_mono hr (Ne.symm hji)) c2 ?_)
      rw [Array.setIfInBounds_comm _ _ hji, <- c3]
      exact hK

def zor (OK : OKP) (md : Region.Mode) (ops : Array Oper) (base : Nat) (K : St -> Prop) : Nat -> List Oper -> St -> Prop
  | _, [], s => K s
  | k, o :: rest, s => match zbv ops o s.ts with
    | some true => ∃ e, OK.ok o s.ts s.yc (rst s.hp e.rs) e /\ Fits md ops base k s e /\ zor OK md ops base K (k + 1) rest (s.after k o e)
    | some false => OK.un o s.ts /\ zor OK md ops base K (k + 1) rest (s.pass o)
    | none => False

theorem zk5 {OK : OKP} {md : Region.Mode} {ops : Array Oper} {base : Nat} {K : St -> Prop} : ∀ (l : List Oper) (k : Nat) (listed : Array Bool) (s : St), zj4 md ops listed -> (∀ j, l[j]? = ops[k + j]?) ->
    Region.lexFrom md ops l.length k listed = true -> zor OK md ops base K k l s -> zk4 OK md ops base K l.length listed s
  | [], _, _, _, _, _, hB, h => ⟨by simpa [Region.lexFrom] using hB, h⟩
  | o :: l, k, listed, s, hcl, hl, hB, h => by
    have h0 : ops[k]? = some o := by simpa using (hl 0).symm
    simp only [List.length_cons, Region.lexFrom, Bool.and_eq_true] at hB
    obtain ⟨⟨hr, hf⟩, hB'⟩ := hB
    have hst : gOp OK md ops base k (zor OK md ops base K (k + 1) l) s := by unfold gOp; simp only [h0]; exact h
    obtain ⟨e, hy, hK⟩ := zkk h0 hst
    exact zoq h0 l.length listed s hcl (Region.free_spec h0 hf) (by simpa using hr) hy
      (zk5 l (k + 1) _ _ (hcl.set (by simpa using hr)) (λj => by have := hl (j + 1); simpa [Nat.add_assoc, Nat.add_comm 1 j] using this) hB' hK)


structure Ext where
  X : Nat -> (Nat -> Prop) -> World -> Prop
  ok : ∀ c S W W', X c S W -> (∀ k, S k -> W'.heap[k]? = W.heap[k]?) -> W'.os = W.os -> W'.tape = W.tape -> W'.output = W.output -> W.heap.size <= W'.heap.size -> X c S W'

structure Sh where
  w : Nat
  a : Nat
  ob : Nat -> Blk
structure YG where
  l : Nat
  xs : List (Array Value)
  stop : Nat
  pn : Option Value
  sh : Option Sh
def YG.still : YG := ⟨0, [], 0, none, none⟩
def YG.has (y : YG) (c : Nat) (W : World) : Prop := match y.sh with
  | none => True
  | some s => W.heap[s.a]? = some (s.ob c).obj0
def YG.at (y : YG) (k : Nat) : Prop := match y.sh with
  | none => False
  | some s => k = s.a
def YG.pan (y : YG) (c : Nat) : Option Value := if c = y.stop then y.pn else none

structure Ctx where
  E : Ext
  hp0 : Hp
  r0 : Nat -> Nat
  G : Hp
  Y : Option YG

def GOK (G : Hp) (W : World) : Prop := ∀ k b, G k = some b -> W.heap[k]? = some b.obj0

def zfh (P : Program) (G : Hp) (E : Ext) (y : YG) : Prop :=
  ∀ c x S W, GOK G W -> y.xs[c]? = some x -> c <= y.stop -> E.X c S W -> (∀ k, S k -> k < W.heap.size) -> y.has c W ->
    YieldAt (Fs P) 0 P y.l x W λe W' => (match y.pan c with | none => e = .returned (.bool (c != y.stop)) | some pv => e = .panicked [{ v := pv, recovered := false }]) /\ GOK G W' /\ W.heap.size <= W'.heap.size /\ (∀ k, k < W.heap.size -> ¬ S k -> ¬ y.at k -> W'.heap[k]? = W.heap[k]?) /\ y.has (c + 1) W' /\
      ∃ S', E.X (c + 1) S' W' /\ (∀ k, S' k -> k < W'.heap.size) /\ ∀ k, S' k -> k < W.heap.size -> S k
def YG.fine (y : YG) (C : Ctx) : Prop := match y.sh with
  | none => True
  | some s => dom C.hp0 s.w /\ C.r0 s.w = s.a /\ ∀ c, (∀ r, (s.ob c).obj r = (s.ob c).obj0) /\ ∀ D, (s.ob c).ids D
def zgq (P : Program) (C : Ctx) (y : YG) : Prop := zfh P C.G C.E y /\ y.fine C

def zt2 (D : Nat) : Deferred := { target := .collected D, args := #[] }

structure RI (C : Ctx) (n : Nat) (d : List Deferred) (r : Nat -> Nat) (ts : Nat -> Value) (hp : Hp) (yc : Nat) (a : Act) (W : World) : Prop where
  size : a.tmps.size = n
  rel : Rel r (dom hp) ts a
  sat : Sat r (dom hp) hp W
  inj : Inj r (dom hp)
  ext : ∃ (S : Nat -> Prop) (ms : List Nat), C.E.X yc S W /\ (∀ k, S k -> k < W.heap.size) /\ (∀ i, dom hp i -> 100 <= i -> ¬ S (r i)) /\ (a.defers = ms.map zt2 ++ d /\ ms.Nodup) /\ ∀ D ∈ ms, W.heap[D]? = some (.deferred (some [])) /\ ¬ S D /\ C.Y ≠ some .still
  keep : ∀ i, dom C.hp0 i -> dom hp i /\ r i = C.r0 i
  glob : ∀ k, k < 100 -> hp k = C.G k
  low : ∀ k, k < 100 -> dom hp k -> r k = k

section
variable {P : Program} {C : Ctx} {n : Nat} {d : List Deferred} {r : Nat -> Nat} {ts : Nat -> Value} {hp : Hp} {yc : Nat} {a : Act} {W : World}

theorem RI.lt (h : RI C n d r ts hp yc a W) {k : Nat} (hk : dom hp k) : r k < W.heap.size := by
  unfold dom at hk
  cases hb : hp k with
  | none => exact absurd hb hk
  | some b => exact (Array.getElem?_eq_some_iff.1 (h.sat k b hb).1).1

theorem RI.ne_mark (h : RI C n d r ts hp yc a W) {k D : Nat} (hk : dom hp k) (hD : W.heap[D]? = some (.deferred (some []))) : r k ≠ D := λe => by
  unfold dom at hk
  cases hb : hp k with
  | none => exact absurd hb hk
  | some b =>
    have := (h.sat k b hb).1
    rw [e, hD] at this; exact (Blk.obj_def this).elim

theorem RI.elsewhere (h : RI C n d r ts hp yc a W) {W' : World} (os : W'.os = W.os) (tape : W'.tape = W.tape) (output : W'.output = W.output) (size : W.heap.size <= W'.heap.size)
    (hs : ∀ k, k < W.heap.size -> W'.heap[k]? = W.heap[k]?) : RI C n d r ts hp yc a W' :=
  { h with
    sat := λk b hk => by
      have := h.sat k b hk
      exact ⟨(hs _ (h.lt (by unfold dom; rw [hk]; simp))).trans this.1, this.2⟩
    ext := by
      obtain ⟨S, ms, h1, h2, h3, h4, h5⟩ := h.ext
      exact ⟨S, ms, C.E.ok _ _ _ _ h1 (λk hk => hs k (h2 k hk)) os tape output size, λk hk => Nat.lt_of_lt_of_le (h2 k hk) size, h3, h4, λD hD => ⟨by rw [hs D (Array.getElem?_eq_some_iff.1 (h5 D hD).1).1]; exact (h5 D hD).1, (h5 D hD).2⟩⟩ }

theorem RI.drew (h : RI C n d r ts hp yc a W) : RI C n d r ts hp yc a { W with drawn := W.drawn + 1 } :=
  h.elsewhere rfl rfl rfl (Nat.le_refl _) λ_ _ => rfl

theorem RI.below (h : RI C n d r ts hp yc a W) {W' : World} (hb : Below W.heap.size W W') : RI C n d r ts hp yc a W' :=
  h.elsewhere hb.os hb.tape hb.output hb.size hb.block

theorem RI.put (h : RI C n d r ts hp yc a W) {dst : Option Tmp} (hd : ∀ d, dst = some d -> d < n) {v : Value} (hv : zan (dom hp) v) : RI C n d r (zcq ts dst v) hp yc (a.put dst (ren r v)) W :=
  { h with
    size := by cases dst <;> simp [Act.put, h.size]
    ext := by cases dst <;> exact h.ext
    rel := h.rel.put (λe he => by rw [h.size]; exact hd e he) hv }

theorem RI.put_undef (h : RI C n d r ts hp yc a W) {dst : Option Tmp} (hd : ∀ d, dst = some d -> d < n) : RI C n d r (zcq ts dst undef) hp yc (a.put dst undef) W := by
  have := h.put hd (zcl (dom hp))
  rwa [zb9] at this

theorem zzu {hp : Hp} {ws ns : List (Nat × Blk)} (hws : ∀ k ∈ zab ws, dom hp k) (k : Nat) : dom (zbb hp (ws ++ ns)) k ↔ zcu (dom hp) ns k := by
  rw [zi2]
  unfold zcu
  constructor
  · rintro (h | h)
    · exact .inl h
    · have : k ∈ zab ws \/ k ∈ zab ns := by simpa [zab] using h
      exact this.elim (λh => .inl (hws k h)) .inr
  · rintro (h | h)
    · exact .inl h
    · exact .inr (by simp [zab] at h |-; exact .inr h)

theorem RI.after (h : RI C n d r ts hp yc a W) {dst : Option Tmp} (hd : ∀ d, dst = some d -> d < n) {e : Eff} {r' : Nat -> Nat} {W' : World} (hr : ∀ k, dom hp k -> r' k = r k)
    (hv : zan (zcu (dom hp) e.ns) e.v) (ht : Turn r' (zcu (dom hp) e.ns) W W' e.ws e.ns) (hws : ∀ k ∈ zab e.ws, dom hp k /\ 100 <= k) (hns : ∀ k ∈ zab e.ns, hp k = none /\ 100 <= k) :
    RI C n d r' (zcq ts dst e.v) (zbb hp (e.ws ++ e.ns)) yc (a.put dst (ren r' e.v)) W' := by
  have hD : dom (zbb hp (e.ws ++ e.ns)) = zcu (dom hp) e.ns := funext λk => propext (zzu (λk hk => (hws k hk).1) k)
  have old : ∀ k, zcu (dom hp) e.ns k -> dom hp k \/ k ∈ zab e.ns := λk hk => hk
  have ltW : ∀ k, dom hp k -> r' k < W.heap.size := λk hk => by rw [hr k hk]; exact h.lt hk
  have fr : ∀ k, k ∈ zab e.ns -> W.heap.size <= r' k := λk hk => by
    obtain ⟨p, hp', rfl⟩ := zad.1 hk; exact ht.fresh p hp'
  have big : ∀ k ∈ zab (e.ws ++ e.ns), 100 <= k := λk hk => by
    have : k ∈ zab e.ws \/ k ∈ zab e.ns := by simpa [zab] using hk
    exact this.elim (λh => (hws k h).2) (λh => (hns k h).2)
  have inj' : Inj r' (zcu (dom hp) e.ns) := λk l hk hl hkl => by
    rcases old k hk with hk | hk <;> rcases old l hl with hl | hl
    · exact h.inj k l hk hl (by rw [<- hr k hk, <- hr l hl]; exact hkl)
    · have h1 := ltW k hk; have h2 := fr l hl; omega
    · have h1 := ltW l hl; have h2 := fr k hk; omega
    · obtain ⟨p, hp1, rfl⟩ := zad.1 hk
      obtain ⟨q, hq1, rfl⟩ := zad.1 hl
      exact ht.apart p hp1 q hq1 hkl
  have base : RI C n d r' ts (zbb hp (e.ws ++ e.ns)) yc a W' :=
    { size := h.size
      rel := by rw [hD]; exact h.rel.mono (λk hk => .inl hk) hr
      sat := λk b hk => by
        rw [hD]
        rcases zrl hk with ⟨h1, h2⟩ | h1
        · have hk' : dom hp k := by unfold dom; rw [h1]; simp
          have hs := h.sat k b h1
          refine ⟨?_, Blk.ids_mono (λ_ hk => .inl hk) hs.2⟩
          rw [ht.same (r' k) (ltW k hk') (λp hp1 e1 => ?_), hr k hk', hs.1, Blk.obj_congr hr hs.2]
          have hp2 : p.1 ∈ zab e.ws := zad.2 ⟨p, hp1, rfl⟩
          have : p.1 = k := inj' _ _ (.inl (hws _ hp2).1) (.inl hk') e1
          exact h2 (by rw [<- this]; simp [zab] at hp2 |-; exact .inl hp2)
        · exact ht.has _ h1
      inj := by rw [hD]; exact inj'
      ext := by
        obtain ⟨S, ms, h1, h2, h3, h4, h5⟩ := h.ext
        refine ⟨S, ms, C.E.ok _ _ _ _ h1 (λk hk => ht.same k (h2 k hk) λp hp1 e1 => ?_) ht.os ht.tape ht.output ht.size, λk hk => Nat.lt_of_lt_of_le (h2 k hk) ht.size, λi hi h1i hS => ?_, h4, λD hD => ⟨?_, (h5 D hD).2⟩⟩
        · have hp2 := (hws _ (zad.2 ⟨p, hp1, rfl⟩)).1
          rw [hr _ hp2] at e1
          exact h3 _ hp2 (hws _ (zad.2 ⟨p, hp1, rfl⟩)).2 (e1 ▸ hk)
        · rw [hD] at hi
          rcases old i hi with hi | hi
          · rw [hr i hi] at hS; exact h3 i hi h1i hS
          · have h6 := h2 _ hS; have h7 := fr i hi; omega
        · rw [ht.same D (Array.getElem?_eq_some_iff.1 (h5 D hD).1).1 (λp hp1 e1 => ?_)]
          · exact (h5 D hD).1
          · have hp2 := (hws _ (zad.2 ⟨p, hp1, rfl⟩)).1
            rw [hr _ hp2] at e1
            exact h.ne_mark hp2 (h5 D hD).1 e1
      keep := λi hi => ⟨by rw [hD]; exact .inl (h.keep i hi).1, by rw [hr i (h.keep i hi).1]; exact (h.keep i hi).2⟩
      glob := λk hk => by rw [za6 (λhm => by have := big k hm; omega)]; exact h.glob k hk
      low := λk hk hd => by
        rw [hD] at hd
        rcases old k hd with hd | hd
        · rw [hr k hd]; exact h.low k hk hd
        · have := (hns k hd).2; omega }
  exact base.put hd (by rw [hD]; exact hv)

abbrev Fw (P : Program) (ro : Option Nat) : Fence := { Fs P with round := ro }

theorem zdj {ro : Option Nat} {m : Nat} {o : Oper} {R Rp : Value -> World -> Prop} {next : Act -> World -> Prop} {Q : Exit -> Act -> World -> Prop} (hnd : ∀ c, o.op ≠ .defer c) (h : zjx P o a W R Rp) (hn : ∀ u W', R u W' -> next (a.put o.dst u) W')
    (hp : ∀ pv W', Rp pv W' -> Q (.panic [{ v := pv, recovered := false }]) a W') : o.wpIn (Fw P ro) m P a W next Q := by
  refine ⟨?_, ?_⟩
  · unfold zjx at h
    generalize hx : (execOp a.eval o).run P W = x at h
    cases x with
    | ok nx W' => exact zqc hx
    | halt x W' =>
      cases x <;> first | exact h.elim | (intro f hf; rw [h.1] at hf; cases hf)
  have e : (Fw P ro).round = ro := rfl
  rw [e, Oper.semAt_eq ro a.eval o hnd]
  unfold zjx at h
  generalize (execOp a.eval o).run P W = x at h
  cases x with
  | ok nx W' =>
    cases nx <;> simp only [Oper.uponIn] at h |- <;> first
      | exact hn _ _ h
      | (exact h.elim)
      | (refine ⟨λh => (by cases h), ?_⟩
         refine CallsIn.mono (⟨h.1, λcs _ => h.2 cs (zdt P _)⟩ : CallsIn (Fw P ro) (m - 1) P _ _ _ _) ?_
         intro e w'' hr
         cases e with
         | returned u => exact hn _ _ hr
         | panicked ch => obtain ⟨pv, rfl, hr⟩ := hr; exact hp _ _ hr
         | outgrown => exact hr.elim)
  | halt x W' => cases x <;> first | exact h.elim | exact hp _ _ h.2

theorem zd3 {ops : Array Oper} {o : Oper} {b : Bool} (h : Rel r (dom hp) ts a) (hj : zbv ops o ts = some b) : Region.wanted o (yielded ops a.tmps) = b := by
  unfold Region.wanted
  unfold zbv at hj
  cases hg : o.guard with
  | none => simpa [hg] using hj
  | some g =>
    obtain ⟨j, w⟩ := g
    simp only [hg] at hj |-
    unfold yielded
    cases hd : (ops[j]?).bind (·.dst) with
    | none => simpa [hd] using hj
    | some t =>
      simp only [hd] at hj
      simp only [Option.bind_some]
      have ht := h t
      cases hv : ts t with
      | bool c =>
        simp only [hv, Option.some.injEq] at hj
        obtain ⟨h1, _⟩ := ht.resolve_left (by rw [hv]; simp [zcj])
        rw [hv] at h1
        simp only [ren, zay, zaj, zam] at h1
        cases hq : a.tmps[t]? with
        | none => simp [hq, undef] at h1
        | some u => simp [hq] at h1; subst h1; simpa using hj
      | tuple vs =>
        simp only [hv, Option.some.injEq] at hj
        obtain ⟨h1, _⟩ := ht.resolve_left (by rw [hv]; simp [zcj])
        rw [hv] at h1
        simp only [ren] at h1
        cases hq : a.tmps[t]? with
        | none => simpa using hj
        | some u => simp [hq] at h1; subst h1; simpa using hj
      | _ => simp [hv] at hj

def zil (n : Nat) (ops : List Oper) : Bool := ops.all λo => (match o.dst with | some d => decide (d < n) | none => true) && (match o.op with | .defer _ => false | _ => true)
theorem zf7 {n : Nat} {ops : List Oper} (h : zil n ops = true) {o : Oper} (ho : o ∈ ops) : (∀ d, o.dst = some d -> d < n) /\ ∀ c, o.op ≠ .defer c := by
  have := List.all_eq_true.1 h o ho
  simp only [Bool.and_eq_true] at this
  refine ⟨λd hd => ?_, λc hc => ?_⟩
  · have h1 := this.1; simpa [hd] using h1
  · have h2 := this.2; simp [hc] at h2

theorem z1h {ro : Option Nat} {m : Nat} {o : Oper} {e : Eff} {next : Act -> World -> Prop} {Q : Exit -> Act -> World -> Prop} (h : RI C n d r ts hp yc a W) (hd : (∀ d, o.dst = some d -> d < n) /\ ∀ c, o.op ≠ .defer c)
    (ho : OpD P o ts (rst hp e.rs) e) (hws : ∀ k ∈ zab e.ws, dom hp k /\ 100 <= k) (hns : ∀ k ∈ zab e.ns, hp k = none /\ 100 <= k)
    (hn : ∀ r' a' W', e.pan = none -> RI C n d r' (zcq ts o.dst e.v) (zbb hp (e.ws ++ e.ns)) yc a' W' -> next a' W')
    (hp' : ∀ pv W', e.pan = some pv -> RI C n d r ts hp yc a W' -> Q (.panic [{ v := pv, recovered := false }]) a W') : o.wpIn (Fw P ro) m P a W next Q := by
  refine zdj hd.2 (ho r (dom hp) a W (λt _ => h.rel t) (λk b hk => h.sat k b (zcy hk)) h.inj h.low (λk hk => ?_) (λp hp1 => ?_)) ?_ ?_
  · unfold dom at hk |-
    cases hb : rst hp e.rs k with
    | none => exact absurd hb hk
    | some b => rw [zcy hb]; simp
  · have := hns _ (zad.2 ⟨p, hp1, rfl⟩)
    exact ⟨by unfold dom; simp [this.1], this.2⟩
  · rintro u W' ⟨hpn, r', hr, rfl, hv, ht⟩
    exact hn r' _ _ hpn (h.after hd.1 hr hv ht hws hns)
  · rintro pv W' ⟨hpn, hb⟩
    exact hp' pv W' hpn (h.below hb)

def z4d (P : Program) (C : Ctx) (n : Nat) (d : List Deferred) (ro : Option Nat) (OK : OKP) : Prop :=
  ∀ (o : Oper) (e : Eff) (ts : Nat -> Value) (hp : Hp) (yc : Nat) (r : Nat -> Nat) (a : Act) (W : World) (m : Nat) (next : Act -> World -> Prop) (Q : Exit -> Act -> World -> Prop),
    RI C n d r ts hp yc a W -> ((∀ d, o.dst = some d -> d < n) /\ ∀ c, o.op ≠ .defer c) -> OK.ok o ts yc (rst hp e.rs) e -> (∀ k ∈ zab e.ws, dom hp k /\ 100 <= k) -> (∀ k ∈ zab e.ns, hp k = none /\ 100 <= k) ->
    (∀ r' a' W', e.pan = none -> RI C n d r' (zcq ts o.dst e.v) (zbb hp (e.ws ++ e.ns)) (if e.yl then yc + 1 else yc) a' W' -> next a' W') ->
    (∀ pv W' yc', e.pan = some pv -> RI C n d r ts hp yc' a W' -> Q (.panic [{ v := pv, recovered := false }]) a W') -> o.wpIn (Fw P ro) m P a W next Q

def zug (P : Program) (OK : OKP) : Prop :=
  ∀ (o : Oper) (ts : Nat -> Value) (r : Nat -> Nat) (D : Nat -> Prop) (a : Act) (W : World), Rel r D ts a -> OK.un o ts -> ∀ f, o.about P W a.eval = some f -> (Fs P).fn f

theorem zge {OK : OKP} {md : Region.Mode} {ops : Array Oper} {base : Nat} {K : St -> Prop} : ∀ (fuel : Nat) (listed : Array Bool) (s : St), zk4 OK md ops base K fuel listed s -> ∃ s', K s' /\ (∀ v, s.pn = some v -> s'.pn = some v) /\ (s'.wr = false -> s.wr = false)
  | 0, _, s, h => ⟨s, h.2, λ_ h => h, id⟩
  | fuel + 1, listed, s, h => by
    cases hr : Region.ready md ops listed with
    | nil => exact ⟨s, h.1 hr, λ_ h => h, id⟩
    | cons i l =>
      have h1 := h.2 i (by rw [hr]; simp)
      unfold gOp at h1
      cases ho : ops[i]? with
      | none => simp only [ho] at h1; exact zge fuel _ s h1
      | some o =>
        simp only [ho] at h1
        cases hw : zbv ops o s.ts with
        | none => rw [hw] at h1; exact h1.elim
        | some b =>
          rw [hw] at h1
          cases b with
          | true =>
            obtain ⟨e, _, _, h4⟩ := h1
            obtain ⟨s', k, h5, h6⟩ := zge fuel _ _ h4
            refine ⟨s', k, λv hv => h5 v (by simp [St.after, hv]), λhs => ?_⟩
            have := h6 hs; simp only [St.after, Bool.or_eq_false_iff] at this; exact this.1
          | false =>
            obtain ⟨s', k, h5, h6⟩ := zge fuel _ _ h1.2
            exact ⟨s', k, h5, h6⟩

theorem zex {ts : Nat -> Value} {dst : Option Tmp} {v : Value} {t : Nat} (h : dst ≠ some t) : zcq ts dst v t = ts t := by
  cases dst with
  | none => rfl
  | some d => exact zaa _ _ (λe => h (by rw [e]))
theorem zgf {OK : OKP} {ro : Option Nat} {m : Nat} {md : Region.Mode} {ops : Array Oper} {base : Nat} {K : St -> Prop} {Q : Exit -> Act -> World -> Prop} {hp0 : Hp} {ts0 : Nat -> Value} (hst : z4d P C n d ro OK) (hun : zug P OK) (hdst : ∀ o ∈ ops, (∀ d, o.dst = some d -> d < n) /\ ∀ c, o.op ≠ .defer c)
    (hK : ∀ s, K s -> s.pn = none -> ∀ r' a' W', RI C n d r' s.ts s.hp s.yc a' W' -> Q .normal a' W')
    (hP : ∀ s' pv, K s' -> s'.pn = some pv -> s'.wr = false -> ∀ r a W ts hp yc, (∀ k b, hp0 k = some b -> hp k = some b) -> (∀ t, (∀ o ∈ ops, o.dst ≠ some t) -> ts t = ts0 t) -> RI C n d r ts hp yc a W -> Q (.panic [{ v := pv, recovered := false }]) a W) (hwr : ∀ s', K s' -> s'.pn ≠ none -> s'.wr = false) :
    ∀ (fuel : Nat) (listed : Array Bool) (s : St) (r : Nat -> Nat) (a : Act) (W : World), RI C n d r s.ts s.hp s.yc a W -> s.pn = none -> (s.wr = false -> ∀ k b, hp0 k = some b -> s.hp k = some b) -> (∀ t, (∀ o ∈ ops, o.dst ≠ some t) -> s.ts t = ts0 t) -> zk4 OK md ops base K fuel listed s -> wpAnyIn (Fw P ro) m P md ops Q fuel listed a W
  | 0, _, s, r, a, W, hR, hpn, hs, hts, h => ⟨h.1, hK s h.2 hpn r a W hR⟩
  | fuel + 1, listed, s, r, a, W, hR, hpn, hs, hts, h => by
    refine ⟨λh0 => hK s (h.1 h0) hpn r a W hR, λi hi => ?_⟩
    have h1 := h.2 i hi
    unfold wpOpIn
    unfold gOp at h1
    cases ho : ops[i]? with
    | none => simp only [ho] at h1; exact zgf hst hun hdst hK hP hwr fuel _ s r a W hR hpn hs hts h1
    | some o =>
      simp only [ho] at h1
      have hd := hdst o (Array.mem_of_getElem? ho)
      cases hw : zbv ops o s.ts with
      | none => rw [hw] at h1; exact h1.elim
      | some b =>
        rw [hw] at h1
        simp only [zd3 hR.rel hw]
        cases b with
        | true =>
          obtain ⟨e, h2, h3, h4⟩ := h1
          simp only [if_true]
          have hs' : (s.after i o e).wr = false -> ∀ k b, hp0 k = some b -> (s.after i o e).hp k = some b := λhw' k b hk => by
            simp only [St.after, Bool.or_eq_false_iff] at hw'
            have e0 : e.ws = [] := by have := hw'.2; simpa using this
            have hk' := hs hw'.1 k b hk
            show zbb s.hp (e.ws ++ e.ns) k = some b
            rw [e0, List.nil_append, za6 (λhm => by have := h3.nodup k hm; rw [hk'] at this; cases this)]
            exact hk'
          refine hst o e s.ts s.hp s.yc r a W m _ _ hR hd h2 (λk hk => (h3.wsrs k hk).2) (λk hk => ⟨h3.nodup k hk, (h3.ids k hk).2.2⟩) ?_ ?_
          · intro r' a' W' hpe hR'
            exact zgf hst hun hdst hK hP hwr fuel _ (s.after i o e) r' a' W' hR' (by simp [St.after, hpn, hpe]) hs' (λt ht => (zex (ht o (Array.mem_of_getElem? ho))).trans (hts t ht)) h4
          · intro pv W' yc' hpe hR'
            obtain ⟨s', k, h5, h6⟩ := zge fuel _ _ h4
            have hp5 := h5 pv (by simp [St.after, hpn, hpe])
            have hw5 := hwr s' k (by rw [hp5]; simp)
            have hw6 := h6 hw5
            simp only [St.after, Bool.or_eq_false_iff] at hw6
            exact hP s' pv k hp5 hw5 r a W' s.ts s.hp yc' (hs hw6.1) hts hR'
        | false =>
          simp only [Bool.false_eq_true, if_false]
          exact ⟨hun o s.ts r _ a W hR.rel h1.1, zgf hst hun hdst hK hP hwr fuel _ (s.pass o) r _ W (hR.put_undef hd.1) hpn hs (λt ht => (zex (ht o (Array.mem_of_getElem? ho))).trans (hts t ht)) h1.2⟩

theorem zpu {OK : OKP} {ro : Option Nat} {m : Nat} {id : Nat} {l : List Oper} {base : Nat} {K : St -> Prop} {Q : Exit -> Act -> World -> Prop} (hst : z4d P C n d ro OK) (hun : zug P OK) (hm : P.follows .mixedOrders = true)
    (hB : Region.lexFrom .any l.toArray l.length 0 (Array.replicate l.length false) = true) (hdst : zil n l = true) (h : RI C n d r ts hp yc a W)
    (hw : zor OK .any l.toArray base K 0 l ⟨ts, hp, λ_ => ([], []), yc, false, none, false⟩) (hK : ∀ s, K s -> s.pn = none -> ∀ r' a' W', RI C n d r' s.ts s.hp s.yc a' W' -> Q .normal a' W')
    (hP : ∀ s' pv, K s' -> s'.pn = some pv -> s'.wr = false -> ∀ r a W ts' hp' yc, (∀ k b, hp k = some b -> hp' k = some b) -> (∀ t, (∀ o ∈ l, o.dst ≠ some t) -> ts' t = ts t) -> RI C n d r ts' hp' yc a W -> Q (.panic [{ v := pv, recovered := false }]) a W) (hwr : ∀ s', K s' -> s'.pn ≠ none -> s'.wr = false) : (Code.region id l.toArray true).wpIn (Fw P ro) m P Q a W := by
  refine wpIn_region_any hm ?_
  have := zk5 (md := .any) (ops := l.toArray) l 0 (Array.replicate l.length false) ⟨ts, hp, λ_ => ([], []), yc, false, none, false⟩ (λk o _ hl => by rw [Array.getD_eq_getD_getElem?, Array.getElem?_replicate] at hl; split at hl <;> simp at hl) (by simp) hB hw
  have h2 := zgf (C := C) (n := n) (d := d) (Q := Q) (m := m) (hp0 := hp) hst hun (λo ho => zf7 hdst (by simpa using ho)) hK (λs' pv h1 h2 h3 r a W ts' hp' yc h4 h5 h6 => hP s' pv h1 h2 h3 r a W ts' hp' yc h4 (λt ht => h5 t (λo ho => ht o (by simpa using ho))) h6) hwr _ _ _ r a _ h.drew rfl (λ_ _ _ h => h) (λ_ _ => rfl) this
  simpa using h2

end

def zgt:Value->Bool
 | .pointer (some _)=>false
 | .slice (some _) _ _=>false
 | .map (some _)=>false
 | _=>true
def za9:Value->Bool
 | .func _ first cap=>first.all zgt&&cap.all zgt
 | .iface _ v=>zgt v
 | v=>zgt v
def zgk:Value->Bool
 | .agg cs=>cs.all za9
 | v=>za9 v
def zau:Value->Bool
 | .tuple vs=>vs.all zgk
 | v=>zgk v

section
variable {r:Nat->Nat} {D:Nat->Prop}
theorem zbm {f:Value->Value} {xs:Array Value} (h:∀ x∈xs,f x=x):xs.map f=xs:=by
 have:xs.map f=xs.map id:=Array.map_congr_left λx hx=>by simpa using h x hx
 rw [this];simp
theorem zg9 {v:Value} (h:zgt v=true):zam r v=v:=by unfold zgt at h;split at h<;>simp_all [zam]
theorem zg8 {v:Value} (h:zgt v=true):zal D v:=by unfold zgt at h;split at h<;>simp_all [zal]
theorem zcd {v:Value} (h:za9 v=true):zaj r v=v:=by
 unfold za9 at h
 split at h
 ·simp only [Bool.and_eq_true] at h
  simp only [zaj]
  rw [zbm (λx hx=>zg9 (Array.all_eq_true_iff_forall_mem.1 h.1 x hx)),zbm (λx hx=>zg9 (Array.all_eq_true_iff_forall_mem.1 h.2 x hx))]
 ·simp only [zaj];rw [zg9 h]
 ·rename_i h1 h2
  unfold zaj
  split
  ·exact absurd rfl (h1 _ _ _)
  ·exact absurd rfl (h2 _ _)
  ·exact zg9 h
theorem zd5 {v:Value} (h:za9 v=true):zah D v:=by
 unfold za9 at h
 split at h
 ·simp only [Bool.and_eq_true] at h
  exact ⟨λx hx=>zg8 (Array.all_eq_true_iff_forall_mem.1 h.1 x hx),λx hx=>zg8 (Array.all_eq_true_iff_forall_mem.1 h.2 x hx)⟩
 ·exact zg8 (v:=_) h
 ·rename_i h1 h2
  unfold zah
  split
  ·exact absurd rfl (h1 _ _ _)
  ·exact absurd rfl (h2 _ _)
  ·exact zg8 h
theorem Blk.obj_flat {r:Nat->Nat} {b:Blk} (h:∀ x∈b.c,za9 x=true):b.obj r=b.obj0:=by
 obtain ⟨c,T⟩:=b
 cases T with
 | ty t=>unfold Blk.obj Blk.obj0;simp only;rw [zbm (λx hx=>zcd (h x hx))]
 | raw t fr=>rfl
 | mp=>unfold Blk.obj Blk.obj0;simp only;rw [zbm (λx hx=>zcd (h x hx))]
theorem Blk.flat_ids {b:Blk} (h:∀ x∈b.c,za9 x=true):b.ids D:=Blk.ids_of λx hx=>zd5 (h x hx)
theorem znn {v:Value} (h:zgk v=true):zay r v=v:=by
 unfold zgk at h
 split at h
 ·simp only [zay];rw [zbm (λx hx=>zcd (Array.all_eq_true_iff_forall_mem.1 h x hx))]
 ·rename_i h1
  unfold zay
  split
  ·exact absurd rfl (h1 _)
  ·exact zcd h
theorem znm {v:Value} (h:zgk v=true):za0 D v:=by
 unfold zgk at h
 split at h
 ·exact λx hx=>zd5 (Array.all_eq_true_iff_forall_mem.1 h x hx)
 ·rename_i h1
  unfold za0
  split
  ·exact absurd rfl (h1 _)
  ·exact zd5 h
theorem zap {v:Value} (h:zau v=true):ren r v=v:=by
 unfold zau at h
 split at h
 ·simp only [ren];rw [zbm (λx hx=>znn (Array.all_eq_true_iff_forall_mem.1 h x hx))]
 ·rename_i h1
  unfold ren
  split
  ·exact absurd rfl (h1 _)
  ·exact znn h
theorem zak {v:Value} (h:zau v=true):zan D v:=by
 unfold zau at h
 split at h
 ·exact λx hx=>znm (Array.all_eq_true_iff_forall_mem.1 h x hx)
 ·rename_i h1
  unfold zan
  split
  ·exact absurd rfl (h1 _)
  ·exact znm h
end

def zj3:Value->Bool
 | .agg _=>false
 | .tuple _=>false
 | _=>true
theorem zrc {r:Nat->Nat} {v:Value} (h:zj3 v=true):ren r v=zaj r v:=by cases v<;>simp_all [zj3,ren,zay]
theorem zz5 {D:Nat->Prop} {v:Value} (h:zj3 v=true):zan D v↔zah D v:=by cases v<;>simp_all [zj3,zan,za0]
theorem zw1 {r:Nat->Nat} {v:Value} (h:zj3 v=true):zj3 (zaj r v)=true:=by
 cases v with
 | pointer p=>cases p<;>rfl
 | slice p _ _=>cases p<;>rfl
 | map p=>cases p<;>rfl
 | agg _=>simp [zj3] at h
 | tuple _=>simp [zj3] at h
 | _=>rfl

def gev (ts:Nat->Value):Operand->Value
 | .tmp t=>ts t
 | .const v=>v
 | .global g=>.pointer (some ⟨g,0,none⟩)
 | .func f=>.func (.func f) #[] #[]
def nj:Value->Prop
 | .complex _ _ _=>False
 | _=>True
theorem z6e {v:Value} (h:nj v):v≠zcj:=by intro e;rw [e] at h;exact h
def okX (ts:Nat->Value) (hp:Hp):Operand->Prop
 | .tmp t=>nj (ts t)
 | .const v=>zau v=true
 | .global g=>g<100/\(hp g).isSome=true
 | .func _=>True

section
variable {P:Program} {o:Oper} {r:Nat->Nat} {D:Nat->Prop} {ts:Nat->Value} {a:Act} {hp:Hp}
theorem ev {x:Operand} (h:zo0 o r D ts a) (hx:x∈o.op.operands) (hk:okX ts hp x) (hlow:∀ k,k<100->D k->r k=k) (hD:∀ k,k<100->dom hp k->D k) :
  a.eval x=ren r (gev ts x)/\zan D (gev ts x):=by
 cases x with
 | tmp t=>exact (h t hx).resolve_left (z6e hk)
 | const v=>exact ⟨(zap hk).symm,zak hk⟩
 | global g =>
  obtain ⟨h1,h2⟩:=hk
  have hd:D g:=hD g h1 (by unfold dom;intro e;rw [e] at h2;simp at h2)
  exact ⟨by simp [Act.eval,gev,ren,zay,zaj,zam,hlow g h1 hd],by simpa [gev,zan,za0,zah,zal] using hd⟩
 | func f=>exact ⟨by simp [Act.eval,gev,ren,zay,zaj],by simp [gev,zan,za0,zah]⟩

def zfa (P:Program) (T:TypeId):Option Bool :=
 match P.underlying T with
 | some (.struct _)=>some true
 | some (.array _ _)=>some true
 | some _=>some false
 | none=>none
def zas (P:Program) (T:TypeId):Option Nat:=(P.info? T).map (·.size)
def zbd (P:Program) (T:TypeId):Option Value:=(P.info? T).bind (·.zero)

theorem zey {T:TypeId} {b:Bool} (h:zfa P T=some b) (W:World):(isAgg T).run P W=.ok b W:=by
 unfold zfa at h
 unfold isAgg
 cases hu:P.underlying T with
 | none=>simp [hu] at h
 | some dd =>
  rw [Sem.run_bind,run_underlying hu W]
  cases dd<;>simp_all
theorem zbn {T:TypeId} {m:Nat} (h:zas P T=some m) (W:World):(sizeOf T).run P W=.ok m W:=by
 unfold zas at h
 cases hi:P.info? T with
 | none=>simp [hi] at h
 | some i=>simp [hi] at h;simp [sizeOf,typeInfo,hi,h]
theorem ze8 {T:TypeId} {z:Value} (h:zbd P T=some z) (W:World):(zeroValue T).run P W=.ok z W:=by
 unfold zbd at h
 cases hi:P.info? T with
 | none=>simp [hi] at h
 | some i=>simp [hi] at h;simp [zeroValue,typeInfo,hi,h]

def zbx (P:Program) (T:TypeId) (c:Array Value) (off:Nat):Option Value :=
 match zfa P T with
 | some true=>match zas P T with
  | some m=>if off+m<=c.size then some (.agg (c.extract off (off+m))) else none
  | none=>none
 | some false=>match c[off]? with
  | some v=>if zj3 v then some v else none
  | none=>none
 | none=>none

theorem zf2 {T:TypeId} {c:Array Value} {off:Nat} {v:Value} (h:zbx P T c off=some v) {W:World} {b:Nat} {T':TypeId} {fr:Nat×Nat} (hb:W.heap[b]? = some (.cells (c.map (zaj r)) T' fr)) :
  (loadVar T ⟨b,off,none⟩).run P W=.ok (ren r v) W:=by
 unfold zbx at h
 cases ha:zfa P T with
 | none=>simp [ha] at h
 | some bb =>
  cases bb with
  | true =>
   simp only [ha] at h
   cases hs:zas P T with
   | none=>simp [hs] at h
   | some m =>
    simp only [hs] at h
    split at h
    ·rename_i hle
     cases h
     have hl:(loadCells ⟨b,off,none⟩ m).run P W=.ok ((c.extract off (off+m)).map (zaj r)) W:=by
      have:=run_loadCells_list (P:=P) W ⟨b,off,none⟩ ((c.extract off (off+m)).map (zaj r)).toList (λj v hv=>by
       rw [Addr.add_mid,cell_of_row W b (off+j) _ _ _ hb]
       simp only [Array.getElem?_toList,Array.getElem?_map,Array.getElem?_extract] at hv
       rw [Array.getElem?_map]
       split at hv
       ·exact hv
       ·simp at hv)
      have hlen:((c.extract off (off+m)).map (zaj r)).toList.length=m:=by simp;omega
      rw [hlen] at this
      rw [this,Array.toArray_toList]
     simp [loadVar,Sem.run_bind,zey ha,zbn hs,hl,ren,zay]
    ·simp at h
  | false =>
   simp only [ha] at h
   cases hc:c[off]? with
   | none=>simp [hc] at h
   | some u =>
    simp only [hc] at h
    split at h
    ·rename_i hsc
     obtain rfl:u=v:=by simpa using h
     have hcell:W.cell? ⟨b,off,none⟩=some (zaj r u):=by rw [cell_of_row W b off _ _ _ hb];simp [hc]
     simp [loadVar,Sem.run_bind,zey ha,load,Sem.run,hcell,zrc hsc]
    ·simp at h

theorem zjh {T:TypeId} {c:Array Value} {off:Nat} {v:Value} (h:zbx P T c off=some v) (hc:∀ x∈c,zah D x):zan D v:=by
 unfold zbx at h
 split at h
 ·split at h
  ·split at h
   ·cases h
    intro x hx
    have:=Array.mem_extract_iff_getElem.1 hx
    obtain ⟨k,hk,e⟩:=this
    exact e▸hc _ (Array.getElem_mem _)
   ·simp at h
  ·simp at h
 ·split at h
  ·rename_i u hu
   split at h
   ·rename_i hs
    cases h
    exact (zz5 hs).2 (hc _ (Array.mem_of_getElem? hu))
   ·simp at h
  ·simp at h
 ·simp at h

def zc2 (P:Program) (T:TypeId) (b:Blk) (off:Nat):Option Value:=match b.T with
 | .ty _=>zbx P T b.c off
 | .raw _ _=>match zbx P T b.c off with
  | some v=>if zau v then some v else none
  | none=>none
 | .mp=>none
theorem zjk (v:Value):zaj (λk=>k) v=v:=by
 have h0:∀ v,zam (λk=>k) v=v:=λv=>by unfold zam;split<;>rfl
 unfold zaj
 split
 ·have:(zam λk=>k)=id:=funext h0
  rw [this];simp
 ·rw [h0]
 ·exact h0 _
theorem zhl {T:TypeId} {k off:Nat} {b:Blk} {v:Value} (h:zc2 P T b off=some v) {W:World} (hb:W.heap[k]? = some (b.obj r)):(loadVar T ⟨k,off,none⟩).run P W=.ok (ren r v) W:=by
 obtain ⟨c,t⟩:=b
 cases t with
 | ty t=>exact zf2 h hb
 | raw t fr =>
  simp only [zc2] at h
  split at h
  ·rename_i u hu
   split at h
   ·rename_i hf
    cases h
    have e:c.map (zaj λk=>k)=c:=zbm λx _=>zjk x
    have:=zf2 (r:=λk=>k) hu (W:=W) (b:=k) (T':=t) (fr:=fr) (by rw [e];exact hb)
    rw [this,zap hf,zap hf]
   ·cases h
  ·cases h
 | mp=>simp [zc2] at h
theorem zv9 {T:TypeId} {b:Blk} {off:Nat} {v:Value} (h:zc2 P T b off=some v) (hb:b.ids D):zan D v:=by
 obtain ⟨c,t⟩:=b
 cases t with
 | ty t=>exact zjh h hb
 | raw t fr =>
  simp only [zc2] at h
  split at h
  ·split at h
   ·rename_i hf;cases h;exact zak hf
   ·cases h
  ·cases h
 | mp=>simp [zc2] at h
def zcg (c:Array Value) (o:Nat):List Value->Array Value
 | []=>c
 | v::vs=>zcg (c.setIfInBounds o v) (o+1) vs
theorem zto (f:Value->Value) (vs:List Value):∀ (c:Array Value) (o:Nat),(zcg c o vs).map f=zcg (c.map f) o (vs.map f):=by
 induction vs with
 | nil=>intro c o;rfl
 | cons v vs ih=>intro c o;simp only [zcg,List.map_cons];rw [ih,Array.map_setIfInBounds]
theorem ztp {Q:Value->Prop} (vs:List Value) (hv:∀ x∈vs,Q x):∀ (c:Array Value) (o:Nat),(∀ x∈c,Q x)->∀ x∈zcg c o vs,Q x:=by
 induction vs with
 | nil=>intro c o hc;exact hc
 | cons v vs ih =>
  intro c o hc
  refine ih (λx hx=>hv x (List.mem_cons_of_mem _ hx)) _ _ (λx hx=>?_)
  rcases Array.mem_or_eq_of_mem_setIfInBounds hx with h|h
  ·exact hc x h
  ·exact h▸hv v (by simp)

theorem zj2 {x:Addr} {v u:Value} (hv:zj3 v=true) {W:World} (hu:W.cell? x=some u) (hf:W.frozen? x=false):(store x v).run P W=.ok () (W.setCell x v):=by
 unfold store
 cases v with
 | agg _=>simp [zj3] at hv
 | tuple _=>simp [zj3] at hv
 | _=>simp [Sem.run,hu,hf]

theorem zhn {b:Nat} {T:TypeId} (vs:List Value) (h1:∀ v∈vs,zj3 v=true):∀ (c:Array Value) (o i:Nat) (W:World),W.heap[b]? = some (.cells c T (0,0))->o+i+vs.length<=c.size ->
  (storeCells ⟨b,o,none⟩ vs i).run P W=.ok () (W.putObj b (.cells (zcg c (o+i) vs) T (0,0))):=by
 induction vs with
 | nil =>
  intro c o i W hb _
  obtain ⟨hlt,he⟩:=Array.getElem?_eq_some_iff.1 hb
  have:W.putObj b (.cells c T (0,0))=W:=by
   unfold World.putObj
   have:W.heap.setIfInBounds b (.cells c T (0,0))=W.heap:=by
    apply Array.ext_getElem?
    intro k
    by_cases e:b=k
    ·subst e;simp [he,hlt]
    ·simp [Array.getElem?_setIfInBounds_ne e]
   rw [this]
  simp [storeCells,zcg,this]
 | cons v vs ih =>
  intro c o i W hb hle
  simp only [List.length_cons] at hle
  obtain ⟨hlt,he⟩:=Array.getElem?_eq_some_iff.1 hb
  have hcell:(W.cell? ⟨b,o+i,none⟩).isSome=true:=by
   rw [cell_of_row W b (o+i) _ _ _ hb];simp;omega
  obtain ⟨u,hu⟩:=Option.isSome_iff_exists.1 hcell
  have hfr:W.frozen? ⟨b,o+i,none⟩=false:=by simp [World.frozen?,hb]
  have hv:=h1 v (by simp)
  have hset:W.setCell ⟨b,o+i,none⟩ v=W.putObj b (.cells (c.setIfInBounds (o+i) v) T (0,0)):=by
   unfold World.setCell World.putObj
   congr 1
   apply Array.ext_getElem?
   intro k
   by_cases e:b=k
   ·subst e;rw [Array.getElem?_modify,if_pos rfl,hb];simp [hlt]
   ·simp [Array.getElem?_modify,e,Array.getElem?_setIfInBounds_ne e]
  have hst:(store ⟨b,o+i,none⟩ v).run P W=.ok () (W.putObj b (.cells (c.setIfInBounds (o+i) v) T (0,0))):=by
   rw [<-hset]
   exact zj2 hv hu hfr
  have hb':(W.putObj b (.cells (c.setIfInBounds (o+i) v) T (0,0))).heap[b]? = some (.cells (c.setIfInBounds (o+i) v) T (0,0)):=World.putObj_heap_same hlt
  have:=ih (λx hx=>h1 x (List.mem_cons_of_mem _ hx)) (c.setIfInBounds (o+i) v) o (i+1) _ hb' (by simp;omega)
  simp only [storeCells,Sem.run_bind,Addr.add_mid,hst,Result.andThen_ok,this]
  simp only [zcg,World.putObj]
  congr 2
  ·simp [Nat.add_assoc]

def cellsOf (v:Value):Array Value:=v.cells
theorem zfj {v:Value} (h:∀ vs,v≠.tuple vs):(ren r v).cells=v.cells.map (zaj r):=by
 cases v with
 | agg cs=>simp [ren,zay,Value.cells]
 | tuple vs=>exact absurd rfl (h vs)
 | pointer p=>cases p<;>simp [ren,zay,zaj,zam,Value.cells]
 | slice p _ _=>cases p<;>simp [ren,zay,zaj,zam,Value.cells]
 | map p=>cases p<;>simp [ren,zay,zaj,zam,Value.cells]
 | _=>simp [ren,zay,zaj,zam,Value.cells]
theorem zfi {v:Value} (h:∀ vs,v≠.tuple vs) (hv:zan D v):∀ x∈v.cells,zah D x:=by
 cases v with
 | agg cs=>exact hv
 | tuple vs=>exact absurd rfl (h vs)
 | _=>intro x hx;simp [Value.cells] at hx;subst hx;exact hv

def za1:Value->Bool
 | .tuple _=>false
 | .agg cs=>cs.all zj3
 | .complex _ _ _=>false
 | _=>true
theorem zb4 {v:Value} (h:za1 v=true):∀ vs,v≠.tuple vs:=by intro vs e;rw [e] at h;simp [za1] at h
theorem zn7 {v:Value} (h:za1 v=true):∀ x∈v.cells,zj3 x=true:=by
 cases v with
 | agg cs=>exact λx hx=>Array.all_eq_true_iff_forall_mem.1 h x hx
 | tuple vs=>simp [za1] at h
 | _=>intro x hx;simp [Value.cells] at hx;subst hx;simp_all [zj3,za1]

theorem zio {T:TypeId} {c:Array Value} {off:Nat} {v:Value} (hv:za1 v=true) (hs:zas P T=some v.cells.size) (hle:off+v.cells.size<=c.size) {W:World} {b:Nat} {T':TypeId}
  (hb:W.heap[b]? = some (.cells (c.map (zaj r)) T' (0,0))) :
  (storeVar T ⟨b,off,none⟩ (ren r v)).run P W=.ok () (W.putObj b (.cells ((zcg c off v.cells.toList).map (zaj r)) T' (0,0))):=by
 have hc:=zfj (r:=r) (zb4 hv)
 have:=zhn (P:=P) (T:=T') (b:=b) (v.cells.map (zaj r)).toList (λx hx=>by
  simp only [Array.toList_map,List.mem_map] at hx
  obtain ⟨y,hy,rfl⟩:=hx
  exact zw1 (zn7 hv y (by simpa using hy))) (c.map (zaj r)) off 0 W hb (by simpa using hle)
 simp only [Nat.add_zero] at this
 rw [zto]
 simp only [Array.toList_map] at this
 simp [storeVar,Sem.run_bind,zbn hs,hc,this]
end

def zdr (op:BinOp) (k:IntKind) (a b:Int):Int :=
 match op with
 | .and=>k.wrap (BitVec.ofInt k.bits a &&& BitVec.ofInt k.bits b).toNat
 | .or=>k.wrap (BitVec.ofInt k.bits a ||| BitVec.ofInt k.bits b).toNat
 | .xor=>k.wrap (BitVec.ofInt k.bits a ^^^ BitVec.ofInt k.bits b).toNat
 | _=>k.wrap (BitVec.ofInt k.bits a &&& ~~~ BitVec.ofInt k.bits b).toNat

def zlt (op:BinOp) (k:IntKind) (a:Int) (k':IntKind) (b:Int):Option Value :=
 match op with
 | .shl=>if 0<=b then some (.int k (k.wrap (a*2^min b.toNat k.bits))) else none
 | .shr=>if 0<=b then some (.int k (a.fdiv (2^min b.toNat k.bits))) else none
 | .add=>if k=k' then some (.int k (k.wrap (a+b))) else none
 | .sub=>if k=k' then some (.int k (k.wrap (a - b))) else none
 | .mul=>if k=k' then some (.int k (k.wrap (a*b))) else none
 | .quo=>if k=k' then if b=0 then none else some (.int k (k.wrap (a.tdiv b))) else none
 | .rem=>if k=k' then if b=0 then none else some (.int k (a.tmod b)) else none
 | .and=>if k=k' then some (.int k (zdr .and k a b)) else none
 | .or=>if k=k' then some (.int k (zdr .or k a b)) else none
 | .xor=>if k=k' then some (.int k (zdr .xor k a b)) else none
 | .andNot=>if k=k' then some (.int k (zdr .andNot k a b)) else none
 | .eql=>if k=k' then some (.bool (a==b)) else none
 | .neq=>if k=k' then some (.bool (a != b)) else none
 | .lss=>if k=k' then some (.bool (a<b)) else none
 | .leq=>if k=k' then some (.bool (a<=b)) else none
 | .gtr=>if k=k' then some (.bool (b<a)) else none
 | .geq=>if k=k' then some (.bool (b<=a)) else none

def zt1:List Value->List Value->Option Bool
 | [],[]=>some true
 | .int k a::xs,.int k' b::ys=>if k=k' then match zt1 xs ys with
  | some r=>some (a==b&&r)
  | none=>none
  else none
 | _,_=>none

def zlh (P:Program) (T:TypeId):Bool:=match P.underlying T with|some .bool=>true|_=>false
def zt0 (P:Program) (T:TypeId):Option Nat :=
 match P.underlying T with
 | some (.array n e)=>match P.underlying e with
  | some (.int _)=>match zas P e with
   | some 1=>if P.eqGuardType P.depth T then none else some n
   | _=>none
  | _=>none
 | _=>none

def ztz (P:Program) (T:TypeId) (xs ys:Array Value):Option Bool :=
 match zt0 P T with
 | some n=>if xs.size=n/\ys.size=n then zt1 xs.toList ys.toList else none
 | none=>none

def zx7 (P:Program) (T:TypeId):Option Nat :=
 match zt0 P T,zas P T,zfa P T with
 | some n,some m,some true=>if m=n then some n else none
 | _,_,_=>none
def zz9 (P:Program) (T:TypeId):Bool :=
 match P.underlying T,zfa P T with
 | some (.int _),some false=>true
 | _,_=>false
def jaz (P:Program) (T off:Nat) (xs ys:Array Value):Option Bool :=
 match zx7 P T with
 | some n=>if off+n<=xs.size/\off+n<=ys.size then ztz P T (xs.extract off (off+n)) (ys.extract off (off+n)) else none
 | none=>if zz9 P T=true then match xs[off]?,ys[off]? with
   | some (.int k a),some (.int k' b)=>if k=k' then some (a==b) else none
   | _,_=>none
  else none
def zx8 (P:Program) (xs ys:Array Value):List (TypeId×Nat)->Option Bool
 | []=>some true
 | f::fs=>match jaz P f.1 f.2 xs ys,zx8 P xs ys fs with
  | some a,some b=>some (a&&b)
  | _,_=>none
def zf4 (P:Program) (T:TypeId):Option (List (TypeId×Nat)) :=
 match P.underlying T with
 | some (.struct fs) => if P.stoodInHeld T || P.eqGuardType P.depth T || fs.toList.any (λf => f.name == "_") then none else some (fs.toList.map λf => (f.type, f.offset))
 | _=>none
def snF (P:Program) (T:TypeId):Option (List (TypeId×Nat)×Nat) :=
 match zf4 P T,zas P T,zfa P T with
 | some l,some m,some true=>some (l,m)
 | _,_,_=>none
def ja2 (P:Program) (o:Option (List (TypeId×Nat)×Nat)) (off:Nat) (xs ys:Array Value):Option Bool :=
 match o with
 | some (l,m)=>if off+m<=xs.size/\off+m<=ys.size then zx8 P (xs.extract off (off+m)) (ys.extract off (off+m)) l else none
 | none=>none
def ja1 (P:Program) (T off:Nat) (xs ys:Array Value):Option Bool :=
 match zx7 P T with
 | some n=>if off+n<=xs.size/\off+n<=ys.size then ztz P T (xs.extract off (off+n)) (ys.extract off (off+n)) else none
 | none=>if zz9 P T=true then match xs[off]?,ys[off]? with
   | some (.int k a),some (.int k' b)=>if k=k' then some (a==b) else none
   | _,_=>none
  else ja2 P (snF P T) off xs ys
def zzr (P:Program) (xs ys:Array Value):List (TypeId×Nat)->Option Bool
 | []=>some true
 | f::fs=>match ja1 P f.1 f.2 xs ys,zzr P xs ys fs with
  | some a,some b=>some (a&&b)
  | _,_=>none
def zr2 (P:Program) (T:TypeId) (n:Option Nat) (st:Option (List (TypeId×Nat))) (xs ys:Array Value):Option Bool :=
 match n with
 | some _=>ztz P T xs ys
 | none=>match st with
  | some l=>if (xs.all za9&&ys.all za9)=true then zzr P xs ys l else none
  | none=>none
def zyv (P:Program) (T:TypeId) (xs ys:Array Value):Option Bool:=zr2 P T (zt0 P T) (zf4 P T) xs ys
def zre (P:Program) (T:TypeId):Bool:=match P.underlying T with|some (.slice _)=>true|_=>false
def zm4 (P:Program) (op:BinOp) (T:TypeId) (x y:Value):Option Value :=
 match x,y with
 | .int k a,.int k' b=>zlt op k a k' b
 | .bool a,.bool b=>match op with
  | .eql=>if zlh P T then some (.bool (a==b)) else none
  | .neq=>if zlh P T then some (.bool (a != b)) else none
  | _=>none
 | .agg xs,.agg ys=>match op with
  | .eql=>match zyv P T xs ys with
   | some r=>some (.bool r)
   | none=>none
  | .neq=>match zyv P T xs ys with
   | some r=>some (.bool (!r))
   | none=>none
  | _=>none
 | .slice p _ _,.slice none 0 0=>match op with
  | .eql=>if zre P T then some (.bool p.isNone) else none
  | .neq=>if zre P T then some (.bool (!p.isNone)) else none
  | _=>none
 | _,_=>none

def un1 (op:UnOp) (x:Value):Option Value :=
 match op,x with
 | .neg,.int k a=>some (.int k (k.wrap (0 - a)))
 | .xor,.int k a=>some (.int k (zdr .xor k (if k.signed then -1 else k.max) a))
 | .not,.bool b=>some (.bool !b)
 | _,_=>none

def zll (P:Program) (src dst:TypeId) (x:Value):Option Value :=
 match P.underlying src,P.underlying dst,x with
 | some _,some (.int k),.int _ n=>some (.int k (k.wrap n))
 | _,_,_=>none

section
variable {P:Program}

theorem zsv {op:BinOp} {T:TypeId} {k k':IntKind} {a b:Int} {v:Value} (h:zlt op k a k' b=some v) (W:World) :
  (binOp op T (.int k a) (.int k' b)).run P W=.ok v W/\zau v=true:=by
 cases op<;>simp only [zlt] at h
 case shl =>
  split at h
  ·cases h;rename_i hb
   refine ⟨?_,rfl⟩
   have:¬b<0:=by omega
   simp [binOp,Op.shift,this]
  ·cases h
 case shr =>
  split at h
  ·cases h;rename_i hb
   refine ⟨?_,rfl⟩
   have:¬b<0:=by omega
   simp [binOp,Op.shift,this]
  ·cases h
 case quo =>
  split at h
  ·split at h
   ·cases h
   ·cases h;rename_i hk hb;subst hk
    exact ⟨by simp [binOp,Op.intDiv,hb],rfl⟩
  ·cases h
 case rem =>
  split at h
  ·split at h
   ·cases h
   ·cases h;rename_i hk hb;subst hk
    exact ⟨by simp [binOp,Op.intDiv,hb],rfl⟩
  ·cases h
 all_goals
  split at h
  ·cases h;rename_i hk;subst hk
   exact ⟨by simp [binOp,Op.intArith,Op.intBits,Op.intCmp,zdr],rfl⟩
  ·cases h

theorem zog {e:TypeId} {kk:IntKind} (hu:P.underlying e=some (.int kk)) {cs:Array Value} {i:Nat} {v:Value} (h:cs[i]? = some v) (W:World):(part e cs (i*1)).run P W=.ok v W:=by
 have ha:(isAgg e).run P W=.ok false W:=zey (by simp [zfa,hu]) W
 simp [part,ha,h]

theorem zf1 {d:Nat} {e:TypeId} {kk:IntKind} (hu:P.underlying e=some (.int kk)) (W:World):∀ (m j:Nat) (xs ys:Array Value) (r:Bool),j+m=xs.size->j+m=ys.size->zt1 (xs.toList.drop j) (ys.toList.drop j)=some r ->
  (Op.eqItems (d+1) e 1 xs ys (List.range' j m)).run P W=.ok r W
 | 0,j,xs,ys,r,hx,hy,h=>by
  rw [List.drop_eq_nil_of_le (by simp;omega),List.drop_eq_nil_of_le (by simp;omega)] at h
  simp only [zt1,Option.some.injEq] at h
  subst h
  simp [Op.eqItems]
 | m+1,j,xs,ys,r,hx,hy,h=>by
  have hjx:j<xs.size:=by omega
  have hjy:j<ys.size:=by omega
  rw [List.drop_eq_getElem_cons (l:=xs.toList) (by simpa using hjx),List.drop_eq_getElem_cons (l:=ys.toList) (by simpa using hjy)] at h
  have gx:xs[j]? = some xs[j]:=Array.getElem?_eq_getElem hjx
  have gy:ys[j]? = some ys[j]:=Array.getElem?_eq_getElem hjy
  simp only [Array.getElem_toList] at h
  generalize xs[j]=x at *
  generalize ys[j]=y at *
  unfold zt1 at h
  split at h
  ·rename_i e1 _;cases e1
  ·rename_i k a xs' k' b ys' e1 e2
   simp only [List.cons.injEq] at e1 e2
   obtain ⟨rfl,rfl⟩:=e1
   obtain ⟨rfl,rfl⟩:=e2
   split at h
   ·rename_i hk;subst hk
    split at h
    ·rename_i q hq
     cases h
     have hrec:=zf1 (d:=d) hu W m (j+1) xs ys q (by omega) (by omega) hq
     have heq:(Op.equalIn (d+1) e (.int k a) (.int k b)).run P W=.ok (a==b) W:=by simp [Op.equalIn,run_underlying hu]
     simp only [List.range'_succ,Op.eqItems,Sem.run_bind,zog hu gx,zog hu gy,Result.andThen_ok,heq]
     cases hab:a==b
     ·simp
     ·simpa using hrec
    ·cases h
   ·cases h
  ·cases h

theorem zhv {T:TypeId} {xs ys:Array Value} {r:Bool} (d:Nat) (h:ztz P T xs ys=some r) (W:World):(Op.equalIn (d+2) T (.agg xs) (.agg ys)).run P W=.ok r W/\P.eqGuardType P.depth T=false:=by
 unfold ztz at h
 split at h
 ·rename_i n hn
  split at h
  ·rename_i hs
   unfold zt0 at hn
   split at hn
   ·rename_i m e hu
    split at hn
    ·rename_i kk hue
     split at hn
     ·rename_i hsz
      split at hn
      ·cases hn
      ·rename_i hg
       cases hn
       refine ⟨?_,by simpa using hg⟩
       unfold zas at hsz
       cases hi:P.info? e with
       | none=>simp [hi] at hsz
       | some i =>
        have hi1:i.size=1:=by simpa [hi] using hsz
        have hc:P.cellsOf e=1:=by simp [Program.cellsOf,hi,hi1]
        rw [run_equalIn_array W (d+1) xs ys hu hi,hc,List.range_eq_range']
        exact zf1 (d:=d) hue W _ 0 xs ys r (by omega) (by omega) (by simpa using h)
     ·cases hn
    ·cases hn
   ·cases hn
  ·cases h
 ·cases h

theorem zez {T:TypeId} {m off:Nat} {xs:Array Value} (h1:zfa P T=some true) (h2:zas P T=some m) (h:off+m<=xs.size) (W:World):(part T xs off).run P W=.ok (.agg (xs.extract off (off+m))) W:=by
 have ha:=zey h1 W
 have hs:=zbn h2 W
 simp [part,ha,hs,h]
theorem zhm {T:TypeId} {off:Nat} {xs:Array Value} {v:Value} (h1:zfa P T=some false) (h:xs[off]? = some v) (W:World):(part T xs off).run P W=.ok v W:=by
 have ha:=zey h1 W
 simp [part,ha,h]
theorem zsk {T off:Nat} {xs ys:Array Value} {r:Bool} (d:Nat) (h:jaz P T off xs ys=some r) (W:World) :
  ∃ a b,(part T xs off).run P W=.ok a W/\(part T ys off).run P W=.ok b W/\(Op.equalIn (d+2) T a b).run P W=.ok r W:=by
 unfold jaz at h
 split at h
 ·rename_i n hn
  split at h
  ·rename_i hs
   unfold zx7 at hn
   split at hn
   ·rename_i n' m h1 h2 h3
    split at hn
    ·rename_i e
     cases hn
     subst e
     exact ⟨_,_,zez h3 h2 hs.1 W,zez h3 h2 hs.2 W,(zhv d h W).1⟩
    ·cases hn
   ·cases hn
  ·cases h
 ·split at h
  ·rename_i hi
   unfold zz9 at hi
   split at hi
   ·rename_i kk h1 h2
    split at h
    ·rename_i k a k' b e1 e2
     split at h
     ·rename_i e;subst e
      cases h
      exact ⟨_,_,zhm h2 e1 W,zhm h2 e2 W,by simp [Op.equalIn,run_underlying h1]⟩
     ·cases h
    ·cases h
   ·cases hi
  ·cases h
theorem zkd {xs ys : Array Value} (d : Nat) (W : World) : ∀ (fs : List Field) (r : Bool), (∀ f ∈ fs, f.name ≠ "_") -> zx8 P xs ys (fs.map λf => (f.type, f.offset)) = some r -> (Op.eqFields (d + 2) xs ys fs).run P W = .ok r W
 | [],r,_,h=>by
  simp only [List.map_nil,zx8,Option.some.injEq] at h
  subst h;rfl
 | f::fs,r,hn,h=>by
  simp only [List.map_cons,zx8] at h
  split at h
  ·rename_i a b ha hb
   cases h
   obtain ⟨x,y,p1,p2,p3⟩:=zsk d ha W
   have ih:=zkd d W fs b (λg hg=>hn g (List.mem_cons_of_mem _ hg)) hb
   have hnf:=hn f (by simp)
   cases a
   ·simp [Op.eqFields,hnf,p1,p2,p3]
   ·simp [Op.eqFields,hnf,p1,p2,p3,ih]
  ·cases h
theorem zjz {T:TypeId} {l:List (TypeId×Nat)} {xs ys:Array Value} {r:Bool} (d:Nat) (hl:zf4 P T=some l) (h:zx8 P xs ys l=some r) (W:World):(Op.equalIn (d+3) T (.agg xs) (.agg ys)).run P W=.ok r W:=by
 unfold zf4 at hl
 split at hl
 ·rename_i fs hu
  split at hl
  ·cases hl
  ·rename_i hc
   cases hl
   simp only [Bool.or_eq_true,not_or,Bool.not_eq_true] at hc
   have hfo:P.fieldsOf T=fs:=by unfold Program.fieldsOf;rw [hu]
   have e:=run_equalIn_struct (P:=P) W (d+2) T xs ys (by rw [hfo];exact hu) hc.1.1
   rw [hfo] at e
   have:=zkd d W fs.toList r (λf hf hn=>by
    have:=List.any_eq_false.1 hc.2 f hf
    simp [hn] at this) h
   exact e.trans this
 ·cases hl
theorem zsl {T off:Nat} {xs ys:Array Value} {r:Bool} (d:Nat) (h:ja1 P T off xs ys=some r) (W:World) :
  ∃ a b,(part T xs off).run P W=.ok a W/\(part T ys off).run P W=.ok b W/\(Op.equalIn (d+3) T a b).run P W=.ok r W:=by
 unfold ja1 at h
 split at h
 ·rename_i n hn
  split at h
  ·rename_i hs
   unfold zx7 at hn
   split at hn
   ·rename_i n' m h1 h2 h3
    split at hn
    ·rename_i e
     cases hn
     subst e
     exact ⟨_,_,zez h3 h2 hs.1 W,zez h3 h2 hs.2 W,(zhv (d+1) h W).1⟩
    ·cases hn
   ·cases hn
  ·cases h
 ·split at h
  ·rename_i hi
   unfold zz9 at hi
   split at hi
   ·rename_i kk h1 h2
    split at h
    ·rename_i k a k' b e1 e2
     split at h
     ·rename_i e;subst e
      cases h
      exact ⟨_,_,zhm h2 e1 W,zhm h2 e2 W,by simp [Op.equalIn,run_underlying h1]⟩
     ·cases h
    ·cases h
   ·cases hi
  ·unfold ja2 at h
   split at h
   ·rename_i l m hs
    unfold snF at hs
    split at hs
    ·rename_i l' m' h1 h2 h3
     cases hs
     split at h
     ·rename_i hsz
      exact ⟨_,_,zez h3 h2 hsz.1 W,zez h3 h2 hsz.2 W,zjz d h1 h W⟩
     ·cases h
    ·cases hs
   ·cases h
theorem zke {xs ys : Array Value} (d : Nat) (W : World) : ∀ (fs : List Field) (r : Bool), (∀ f ∈ fs, f.name ≠ "_") -> zzr P xs ys (fs.map λf => (f.type, f.offset)) = some r -> (Op.eqFields (d + 3) xs ys fs).run P W = .ok r W
 | [],r,_,h=>by
  simp only [List.map_nil,zzr,Option.some.injEq] at h
  subst h;rfl
 | f::fs,r,hn,h=>by
  simp only [List.map_cons,zzr] at h
  split at h
  ·rename_i a b ha hb
   cases h
   obtain ⟨x,y,p1,p2,p3⟩:=zsl d ha W
   have ih:=zke d W fs b (λg hg=>hn g (List.mem_cons_of_mem _ hg)) hb
   have hnf:=hn f (by simp)
   cases a
   ·simp [Op.eqFields,hnf,p1,p2,p3]
   ·simp [Op.eqFields,hnf,p1,p2,p3,ih]
  ·cases h
theorem zj6 {T:TypeId} {xs ys:Array Value} {r:Bool} (h:zyv P T xs ys=some r) (W:World):(Op.equal T (.agg xs) (.agg ys)).run P W=.ok r W/\P.eqGuardType P.depth T=false:=by
 unfold zyv zr2 at h
 split at h
 ·exact zhv 9998 h W
 ·split at h
  ·rename_i l hl
   split at h
   ·unfold zf4 at hl
    split at hl
    ·rename_i fs hu
     split at hl
     ·cases hl
     ·rename_i hc
      cases hl
      simp only [Bool.or_eq_true,not_or,Bool.not_eq_true] at hc
      have hfo:P.fieldsOf T=fs:=by unfold Program.fieldsOf;rw [hu]
      refine ⟨?_,hc.1.2⟩
      have e:=run_equalIn_struct (P:=P) W 9999 T xs ys (by rw [hfo];exact hu) hc.1.1
      rw [hfo] at e
      have:=zke 9996 W fs.toList r (λf hf hn=>by
       have:=List.any_eq_false.1 hc.2 f hf
       simp [hn] at this) h
      exact e.trans this
    ·cases hl
   ·cases h
  ·cases h
theorem zr4 {op:BinOp} {T:TypeId} {x y:Value} {ox oy:Operand} {v:Value} (h:zm4 P op T x y=some v) (W:World) :
  (do eqGuard op T ox oy x y;binOp op T x y).run P W=.ok v W/\zau v=true:=by
 unfold zm4 at h
 split at h
 ·rename_i k a k' b
  have h1:=zsv (P:=P) (T:=T) h W
  refine ⟨?_,h1.2⟩
  have hg:(eqGuard op T ox oy (.int k a) (.int k' b)).run P W=.ok () W:=by unfold eqGuard;split<;>rfl
  simp only [Sem.run_bind,hg,Result.andThen_ok,h1.1]
 ·rename_i a b
  have hg:(eqGuard op T ox oy (.bool a) (.bool b)).run P W=.ok () W:=by unfold eqGuard;split<;>rfl
  split at h
  ·split at h
   ·rename_i hb
    cases h
    have hu:P.underlying T=some .bool:=by unfold zlh at hb;split at hb<;>simp_all
    exact ⟨by simp only [Sem.run_bind,hg,Result.andThen_ok,binOp,run_equal_bool W T a b hu,Sem.run_pure],rfl⟩
   ·cases h
  ·split at h
   ·rename_i hb
    cases h
    have hu:P.underlying T=some .bool:=by unfold zlh at hb;split at hb<;>simp_all
    exact ⟨by simp only [Sem.run_bind,hg,Result.andThen_ok,binOp,run_equal_bool W T a b hu,Sem.run_pure];cases a<;>cases b<;>rfl,rfl⟩
   ·cases h
  ·cases h
 ·rename_i xs ys
  split at h
  ·split at h
   ·rename_i r hr
    cases h
    have h1:=zj6 hr W
    have hg:(eqGuard .eql T ox oy (.agg xs) (.agg ys)).run P W=.ok () W:=by simp [eqGuard,h1.2]
    exact ⟨by simp [Sem.run_bind,hg,binOp,h1.1],rfl⟩
   ·cases h
  ·split at h
   ·rename_i r hr
    cases h
    have h1:=zj6 hr W
    have hg:(eqGuard .neq T ox oy (.agg xs) (.agg ys)).run P W=.ok () W:=by simp [eqGuard,h1.2]
    exact ⟨by simp [Sem.run_bind,hg,binOp,h1.1],rfl⟩
   ·cases h
  ·cases h
 ·rename_i p l c
  have hg:(eqGuard op T ox oy (.slice p l c) (.slice none 0 0)).run P W=.ok () W:=by unfold eqGuard;split<;>rfl
  split at h
  ·split at h
   ·rename_i hs
    cases h
    unfold zre at hs
    split at hs
    ·rename_i e hu
     exact ⟨by simp only [Sem.run_bind,hg,Result.andThen_ok,binOp,run_equal_slice_nil W T e p l c hu,Sem.run_pure],rfl⟩
    ·cases hs
   ·cases h
  ·split at h
   ·rename_i hs
    cases h
    unfold zre at hs
    split at hs
    ·rename_i e hu
     exact ⟨by simp only [Sem.run_bind,hg,Result.andThen_ok,binOp,run_equal_slice_nil W T e p l c hu,Sem.run_pure],rfl⟩
    ·cases hs
   ·cases h
  ·cases h
 ·cases h

theorem zxo {op:UnOp} {x v:Value} (h:un1 op x=some v) (W:World):(Op.unary op x).run P W=.ok v W/\zau v=true:=by
 unfold un1 at h
 split at h
 ·cases h;exact ⟨by simp [Op.unary,Op.intArith],rfl⟩
 ·cases h;exact ⟨by simp [Op.unary,Op.intBits,zdr],rfl⟩
 ·cases h;exact ⟨by simp [Op.unary],rfl⟩
 ·cases h

theorem zo8 {src dst:TypeId} {x v:Value} (h:zll P src dst x=some v) (W:World):(convert src dst x).run P W=.ok v W/\zau v=true:=by
 unfold zll at h
 split at h
 ·rename_i u k kk m hs hd
  cases h
  refine ⟨?_,rfl⟩
  unfold convert
  simp only [Sem.run_bind,run_underlying hs,run_underlying hd,Result.andThen_ok]
  cases u<;>simp [Conv.intToInt]
 ·cases h
end
def mpC (l:List (ByteArray×Value)):Array Value:=(l.flatMap λp=>[Value.string p.1,p.2]).toArray
def mpB (l:List (ByteArray×Value)):Blk:=⟨mpC l,.mp⟩
def z1p:List Value->Option (List (ByteArray×Value))
 | []=>some []
 | .string s::v::l=>(z1p l).map ((s,v)::·)
 | _=>none
def z6a (b:Blk):Option (List (ByteArray×Value)):=match b.T with
 | .mp=>z1p b.c.toList
 | _=>none
theorem zxp:∀ l:List (ByteArray×Value),z1p (l.flatMap λp=>[Value.string p.1,p.2])=some l
 | []=>rfl
 | p::l=>by simp [z1p,zxp l]
theorem zrk:∀ (cs:List Value) (l:List (ByteArray×Value)),z1p cs=some l->cs=l.flatMap λp=>[Value.string p.1,p.2]
 | [],l,h=>by simp [z1p] at h;subst h;rfl
 | [v],l,h=>by cases v<;>simp [z1p] at h
 | k::v::cs,l,h=>by
  cases k with
  | string s =>
   simp only [z1p,Option.map_eq_some_iff] at h
   obtain ⟨l',h1,rfl⟩:=h
   rw [zrk cs l' h1];simp
  | _=>simp [z1p] at h
theorem zq6 (l:List (ByteArray×Value)):z6a (mpB l)=some l:=by simp [z6a,mpB,mpC,zxp]
theorem zq5 {b:Blk} {l:List (ByteArray×Value)} (h:z6a b=some l):b=mpB l:=by
 obtain ⟨c,T⟩:=b
 cases T with
 | mp =>
  simp only [z6a] at h
  unfold mpB mpC
  rw [<-zrk _ _ h]
 | _=>simp [z6a] at h
def zcs (s:ByteArray):List (ByteArray×Value)->Option Value
 | []=>none
 | p::l=>if (s==p.1)=true then some p.2 else zcs s l
def zmo (r:Nat->Nat):List (ByteArray×Value)->Nat->List MapEntry
 | [],_=>[]
 | p::l,i=>⟨.string p.1,zaj r p.2,i⟩::zmo r l (i+1)
theorem zqk (r:Nat->Nat):∀ (l:List (ByteArray×Value)) (i:Nat),(zmo r l i).length=l.length
 | [],_=>rfl
 | p::l,i=>by simp [zmo,zqk r l]
theorem zwh (r:Nat->Nat):∀ (l:List (ByteArray×Value)) (i:Nat),mpL ((l.flatMap λp=>[Value.string p.1,p.2]).map (zaj r)) i=zmo r l i
 | [],_=>rfl
 | p::l,i=>by
  simp only [List.flatMap_cons,List.cons_append,List.nil_append,List.map_cons,mpL,zmo,zwh r l]
  rfl
theorem zpq (r:Nat->Nat) (l:List (ByteArray×Value)):(mpB l).obj r=.map (zmo r l 0).toArray l.length:=by
 unfold Blk.obj mpB z59 mpC
 simp only [List.map_toArray,zwh,zqk]
theorem zqj (r:Nat->Nat) (q:ByteArray×Value):∀ (l:List (ByteArray×Value)) (i:Nat),zmo r (l++[q]) i=zmo r l i++[⟨.string q.1,zaj r q.2,i+l.length⟩]
 | [],i=>by simp [zmo]
 | p::l,i=>by simp only [List.cons_append,zmo,zqj r q l,List.length_cons];rw [show i+1+l.length=i+(l.length+1) by omega]
theorem znj (r:Nat->Nat) (s:ByteArray):∀ (l:List (ByteArray×Value)) (i j:Nat),zcs s l=none->Instr.findNow .string (.string s) (zmo r l i) j=some none
 | [],_,_,_=>rfl
 | p::l,i,j,h=>by
  simp only [zcs] at h
  split at h
  ·cases h
  ·rename_i hc
   simp only [zmo,Instr.findNow,Instr.sameNow]
   rw [show (s==p.1)=false by simpa using hc]
   exact znj r s l (i+1) (j+1) h
theorem znk (r:Nat->Nat) (s:ByteArray) {v:Value}:∀ (l:List (ByteArray×Value)) (i j:Nat),zcs s l=some v->∃ k,Instr.findNow .string (.string s) (zmo r l i) j=some (some (k,zaj r v))
 | [],_,_,h=>by cases h
 | p::l,i,j,h=>by
  simp only [zcs] at h
  split at h
  ·rename_i hc
   cases h
   simp only [zmo,Instr.findNow,Instr.sameNow,hc]
   exact ⟨j,rfl⟩
  ·rename_i hc
   simp only [zmo,Instr.findNow,Instr.sameNow]
   rw [show (s==p.1)=false by simpa using hc]
   exact znk r s l (i+1) (j+1) h
def zf3 (P:Program) (T:TypeId):Bool:=match P.underlying T with
 | some (.map kt _)=>(match P.underlying kt with|some .string=>true|_=>false)
 | _=>false
theorem zoj {P:Program} {T:TypeId} (h:zf3 P T=true):∃ kt e,P.underlying T=some (.map kt e)/\P.underlying kt=some .string:=by
 unfold zf3 at h
 split at h
 ·rename_i kt e hk
  split at h
  ·rename_i hs;exact ⟨kt,e,hk,hs⟩
  ·cases h
 ·cases h
section
variable {P:Program} {T:TypeId} {W:World} {k:Nat} {s:ByteArray} {r:Nat->Nat} {l:List (ByteArray×Value)}
theorem ztk (hT:zf3 P T=true) (hk:W.heap[k]? = some ((mpB l).obj r)) (hf:zcs s l=none) {x v:Value} (hx:x=zaj r v):(Instr.mapUpdate T (.map (some k)) (.string s) x).run P W=.ok () (W.putObj k ((mpB (l++[(s,v)])).obj r)):=by
 obtain ⟨kt,e,h1,h2⟩:=zoj hT
 rw [zpq] at hk |-
 have hfn:(Instr.findKey kt (.string s) (zmo r l 0).toArray.toList).run P W=.ok none W:=MapKept.run_findKey h2 (znj r s l 0 0 hf)
 subst hx
 unfold Instr.mapUpdate
 simp only [Sem.run_bind,run_underlying h1,Result.andThen_ok,MapKept.run_getObj_map hk,MapKept.run_checkKey h2 (k:=.string s) trivial false 9999,hfn,MapKept.run_setObj_map _ hk]
 simp [World.putObj,zqj]
theorem ztl (hT:zf3 P T=true) (hk:W.heap[k]? = some ((mpB l).obj r)) {v:Value} (hf:zcs s l=some v):(Instr.lookup T (.map (some k)) (.string s) false).run P W=.ok (zaj r v) W:=by
 obtain ⟨kt,e,h1,h2⟩:=zoj hT
 rw [zpq] at hk
 obtain ⟨q,hq⟩:=znk r s l 0 0 hf
 have hfn:(Instr.findKey kt (.string s) (zmo r l 0).toArray.toList).run P W=.ok (some (q,zaj r v)) W:=MapKept.run_findKey h2 hq
 unfold Instr.lookup
 simp only [Sem.run_bind,run_underlying h1,Result.andThen_ok,MapKept.run_getObj_map hk,Sem.run_pure,MapKept.run_checkKey h2 (k:=.string s) trivial _ 9999,hfn]
 simp
end
end Go.Gy
