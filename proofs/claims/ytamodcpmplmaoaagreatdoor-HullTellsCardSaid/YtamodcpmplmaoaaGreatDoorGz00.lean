/-
  Lemmas of this claim, in their order (GyA, GyB, GyC, GyD, GyB2, GyMP).
  Conditions: those of each theorem.
-/
import Derived.Orders
import Derived.Still
import Derived.Below
import Derived.RangeFuncRecord
import Derived.Tactics2
import Derived.TacticsIn
import Derived.OrdersIn
import Derived.RangeFuncLeaves
import Derived.RangeFuncSeq
import Derived.FollowTie
import Derived.RegionTactic
import Derived.Deep.MidRow
import Derived.ChangeKeysEq
import Derived.Laws.StructEq
import Derived.Laws.Cover3
import Derived.MapKept
set_option linter.unusedSimpArgs false
set_option linter.unusedVariables false
namespace Go.Gy
open Go Go.RowKit

inductive BTy
 | ty (t:TypeId)
 | raw (t:TypeId) (fr:Nat×Nat)
 | mp
def BTy.own:BTy->Bool
 | .ty _=>true
 | .raw _ _=>false
 | .mp=>false
def BTy.rd:BTy->Bool
 | .mp=>false
 | _=>true
@[simp] theorem BTy.own_ty (t:TypeId):BTy.own (.ty t)=true:=rfl
instance:Coe TypeId BTy:=⟨.ty⟩
structure Blk where
 c:Array Value
 T:BTy

abbrev Hp:=Nat->Option Blk

def upd {α:Type} (f:Nat->α) (k:Nat) (v:α):Nat->α:=λj=>if j=k then v else f j

theorem za9 {α:Type} (f:Nat->α) (k:Nat) (v:α):upd f k v k=v:=by simp [upd]
theorem zab {α:Type} (f:Nat->α) {k j:Nat} (v:α) (h:j≠k):upd f k v j=f j:=by simp [upd,h]
theorem znv {α:Type} (f:Nat->α) {k l:Nat} (u v:α) (h:k≠l):upd (upd f k u) l v=upd (upd f l v) k u:=by
 funext j;unfold upd;by_cases h1:j=l<;>by_cases h2:j=k<;>simp_all

def zan (r:Nat->Nat):Value->Value
 | .pointer (some a)=>.pointer (some { a with block:=r a.block })
 | .slice (some a) n c=>.slice (some { a with block:=r a.block }) n c
 | .map (some b)=>.map (some (r b))
 | v=>v
def zak (r:Nat->Nat):Value->Value
 | .func fn first cap=>.func fn (first.map (zan r)) (cap.map (zan r))
 | .iface t v=>.iface t (zan r v)
 | v=>zan r v
def zay (r:Nat->Nat):Value->Value
 | .agg cs=>.agg (cs.map (zak r))
 | v=>zak r v
def ren (r:Nat->Nat):Value->Value
 | .tuple vs=>.tuple (vs.map (zay r))
 | v=>zay r v

def zaj (D:Nat->Prop):Value->Prop
 | .pointer (some a)=>D a.block
 | .slice (some a) _ _=>D a.block
 | .map (some b)=>D b
 | _=>True
def zah (D:Nat->Prop):Value->Prop
 | .func _ first cap=>(∀ x∈first,zaj D x)/\(∀ x∈cap,zaj D x)
 | .iface _ v=>zaj D v
 | v=>zaj D v
def zax (D:Nat->Prop):Value->Prop
 | .agg cs=>∀ x∈cs,zah D x
 | v=>zah D v
def zap (D:Nat->Prop):Value->Prop
 | .tuple vs=>∀ x∈vs,zax D x
 | v=>zax D v

section congr
variable {D D':Nat->Prop} {r r':Nat->Nat}
theorem zf5 (h:∀ k,D k->D' k):∀ {v:Value},zaj D v->zaj D' v:=by
 intro v;unfold zaj;split<;>first|exact h _|exact id
theorem zdz (h:∀ k,D k->D' k):∀ {v:Value},zah D v->zah D' v:=by
 intro v
 unfold zah
 split
 ·exact λ⟨a,b⟩=>⟨λx hx=>zf5 h (a x hx),λx hx=>zf5 h (b x hx)⟩
 ·exact zf5 h
 ·exact zf5 h
theorem zo7 (h:∀ k,D k->D' k):∀ {v:Value},zax D v->zax D' v:=by
 intro v;unfold zax;split
 ·exact λa x hx=>zdz h (a x hx)
 ·exact zdz h
theorem zcp (h:∀ k,D k->D' k):∀ {v:Value},zap D v->zap D' v:=by
 intro v;unfold zap;split
 ·exact λa x hx=>zo7 h (a x hx)
 ·exact zo7 h
theorem zgn (h:∀ k,D k->r' k=r k):∀ {v:Value},zaj D v->zan r' v=zan r v:=by
 intro v;unfold zaj;split<;>intro hd<;>simp_all [zan]
theorem zgo (h:∀ k,D k->r' k=r k):∀ {v:Value},zah D v->zak r' v=zak r v:=by
 intro v hv
 unfold zah at hv
 split at hv
 ·obtain ⟨a,b⟩:=hv
  simp only [zak]
  rw [Array.map_congr_left (λx hx=>zgn h (a x hx)),Array.map_congr_left (λx hx=>zgn h (b x hx))]
 ·simp only [zak];rw [zgn h hv]
 ·rename_i h1 h2
  unfold zak
  split
  ·exact absurd rfl (h1 _ _ _)
  ·exact absurd rfl (h2 _ _)
  ·exact zgn h hv
theorem zl6 (h:∀ k,D k->r' k=r k):∀ {v:Value},zax D v->zay r' v=zay r v:=by
 intro v hv
 unfold zax at hv
 split at hv
 ·simp only [zay]
  rw [Array.map_congr_left (λx hx=>zgo h (hv x hx))]
 ·rename_i h1
  unfold zay
  split
  ·exact absurd rfl (h1 _)
  ·exact zgo h hv
theorem zcy (h:∀ k,D k->r' k=r k):∀ {v:Value},zap D v->ren r' v=ren r v:=by
 intro v hv
 unfold zap at hv
 split at hv
 ·simp only [ren]
  rw [Array.map_congr_left (λx hx=>zl6 h (hv x hx))]
 ·rename_i h1
  unfold ren
  split
  ·exact absurd rfl (h1 _)
  ·exact zl6 h hv
end congr

def mpL:List Value->Nat->List MapEntry
 | k::v::l,i=>⟨k,v,i⟩::mpL l (i+1)
 | _,_=>[]
def jan (c:Array Value):Obj:=.map (mpL c.toList 0).toArray (mpL c.toList 0).length
def Blk.obj (r:Nat->Nat) (b:Blk):Obj:=match b.T with
 | .ty t=>.cells (b.c.map (zak r)) t (0,0)
 | .raw t fr=>.cells b.c t fr
 | .mp=>jan (b.c.map (zak r))
def Blk.obj0 (b:Blk):Obj:=match b.T with
 | .ty t=>.cells b.c t (0,0)
 | .raw t fr=>.cells b.c t fr
 | .mp=>jan b.c
def Blk.ids (D:Nat->Prop) (b:Blk):Prop:=match b.T with
 | .ty _=>∀ x∈b.c,zah D x
 | .raw _ _=>True
 | .mp=>∀ x∈b.c,zah D x
theorem Blk.ids_of {D:Nat->Prop} {b:Blk} (h:∀ x∈b.c,zah D x):b.ids D:=by
 unfold Blk.ids;split
 ·exact h
 ·trivial
 ·exact h
theorem Blk.obj_congr {D:Nat->Prop} {r r':Nat->Nat} (h:∀ k,D k->r' k=r k) {b:Blk} (hb:b.ids D):b.obj r'=b.obj r:=by
 obtain ⟨c,T⟩:=b
 cases T with
 | ty t =>
  unfold Blk.obj
  simp only
  rw [Array.map_congr_left (λx hx=>zgo h (hb x hx))]
 | raw t fr=>rfl
 | mp =>
  unfold Blk.obj
  simp only
  rw [Array.map_congr_left (λx hx=>zgo h (hb x hx))]
theorem Blk.ids_mono {D D':Nat->Prop} (h:∀ k,D k->D' k) {b:Blk} (hb:b.ids D):b.ids D':=by
 obtain ⟨c,T⟩:=b
 cases T with
 | ty t=>exact λx hx=>zdz h (hb x hx)
 | raw t fr=>trivial
 | mp=>exact λx hx=>zdz h (hb x hx)

theorem Blk.obj_loop {r:Nat->Nat} {b:Blk} {L:Loop} (h:some (Obj.loop L)=some (b.obj r)):False:=by
 obtain ⟨c,T⟩:=b
 cases T<;>cases h
theorem Blk.obj_def {r:Nat->Nat} {b:Blk} {x:Option (List Deferred)} (h:some (Obj.deferred x)=some (b.obj r)):False:=by
 obtain ⟨c,T⟩:=b
 cases T<;>cases h
theorem Blk.obj0_def {b:Blk} {x:Option (List Deferred)} (h:some (Obj.deferred x)=some b.obj0):False:=by
 obtain ⟨c,T⟩:=b
 cases T<;>cases h
def dom (hp:Hp):Nat->Prop:=λk=>hp k≠none

def zcm:Value:=.complex .f32 0 1

def Rel (r:Nat->Nat) (D:Nat->Prop) (ts:Nat->Value) (a:Act):Prop :=
 ∀ t,ts t=zcm\/(a.tmps.getD t undef=ren r (ts t)/\zap D (ts t))

def Sat (r:Nat->Nat) (D:Nat->Prop) (hp:Hp) (W:World):Prop :=
 ∀ k b,hp k=some b->W.heap[r k]? = some (b.obj r)/\b.ids D
def Inj (r:Nat->Nat) (D:Nat->Prop):Prop:=∀ k l,D k->D l->r k=r l->k=l

theorem Rel.mono {r r':Nat->Nat} {D D':Nat->Prop} {ts:Nat->Value} {a:Act} (h:Rel r D ts a) (hD:∀ k,D k->D' k) (hr:∀ k,D k->r' k=r k):Rel r' D' ts a :=
 λt=>(h t).imp id λh=>⟨by rw [h.1,zcy hr h.2],zcp hD h.2⟩

def zcx (ts:Nat->Value) (dst:Option Tmp) (v:Value):Nat->Value :=
 match dst with
 | some d=>upd ts d v
 | none=>ts

theorem Rel.put {r:Nat->Nat} {D:Nat->Prop} {ts:Nat->Value} {a:Act} (h:Rel r D ts a) {dst:Option Tmp} (hd:∀ d,dst=some d->d<a.tmps.size) {v:Value} (hv:zap D v) :
  Rel r D (zcx ts dst v) (a.put dst (ren r v)):=by
 cases dst with
 | none=>exact h
 | some d =>
  intro t
  have hlt:=hd d rfl
  by_cases e:t=d
  ·subst e
   simp only [zcx,za9]
   exact .inr ⟨by simp [Act.put,hlt],hv⟩
  ·simp only [zcx,zab _ _ e]
   refine (h t).imp id λh=>⟨?_,h.2⟩
   rw [<-h.1]
   simp [Act.put,Array.getElem?_setIfInBounds_ne (Ne.symm e)]

theorem zci (r:Nat->Nat):ren r undef=undef:=by simp [undef,ren]
theorem zcv (D:Nat->Prop):zap D undef:=by simp [undef,zap]


structure Eff where
  v : Value
  rs : List Nat
  ws : List (Nat × Blk)
  ns : List (Nat × Blk)
  pan : Option Value
  yl : Bool

def zaa (l : List (Nat × Blk)) : List Nat := l.map (·.1)
theorem zag {l : List (Nat × Blk)} {k : Nat} : k ∈ zaa l ↔ ∃ p ∈ l, p.1 = k := by simp [zaa]

def zbi (hp : Hp) : List (Nat × Blk) -> Hp
  | [] => hp
  | (k, b) :: l => zbi (upd hp k (some b)) l

theorem za6 {l : List (Nat × Blk)} : ∀ {hp : Hp} {k : Nat}, k ∉ zaa l -> zbi hp l k = hp k := by
  induction l with
  | nil => intro hp k _; rfl
  | cons p l ih =>
    intro hp k hk
    obtain ⟨q, b⟩ := p
    simp only [zaa, List.map_cons, List.mem_cons, not_or] at hk
    simp only [zbi]
    rw [ih (by simpa [zaa] using hk.2), zab _ _ hk.1]

theorem zdp {l : List (Nat × Blk)} : ∀ {hp : Hp} {k : Nat} {b : Option Blk}, k ∉ zaa l -> zbi (upd hp k b) l = upd (zbi hp l) k b := by
  induction l with
  | nil => intro hp k b _; rfl
  | cons p l ih =>
    intro hp k b hk
    obtain ⟨q, c⟩ := p
    simp only [zaa, List.map_cons, List.mem_cons, not_or] at hk
    simp only [zbi]
    rw [znv _ _ _ hk.1, ih (by simpa [zaa] using hk.2)]

theorem z0y {l m : List (Nat × Blk)} : ∀ {hp : Hp}, (∀ k ∈ zaa l, k ∉ zaa m) -> zbi (zbi hp l) m = zbi (zbi hp m) l := by
  induction l with
  | nil => intro hp _; rfl
  | cons p l ih =>
    intro hp h
    obtain ⟨q, c⟩ := p
    simp only [zbi]
    rw [ih (λk hk => h k (by simp [zaa] at hk |-; exact .inr hk)), zdp (h q (by simp [zaa]))]

theorem zjx {l : List (Nat × Blk)} : ∀ {hp : Hp} {k : Nat}, dom (zbi hp l) k ↔ dom hp k \/ k ∈ zaa l := by
  induction l with
  | nil => intro hp k; simp [zbi, zaa]
  | cons p l ih =>
    intro hp k
    obtain ⟨q, c⟩ := p
    simp only [zbi]
    rw [ih]
    by_cases e : k = q
    · subst e; simp [dom, za9, zaa]
    · simp [dom, zab _ _ e, zaa, e]

theorem ztx {l : List (Nat × Blk)} : ∀ {hp : Hp} {k : Nat} {b : Blk}, zbi hp l k = some b -> (hp k = some b /\ k ∉ zaa l) \/ (k, b) ∈ l := by
  induction l with
  | nil => intro hp k b h; exact .inl ⟨h, by simp [zaa]⟩
  | cons p l ih =>
    intro hp k b h
    obtain ⟨q, c⟩ := p
    simp only [zbi] at h
    rcases ih h with ⟨h1, h2⟩ | h1
    · by_cases e : k = q
      · subst e; rw [za9] at h1; cases h1; exact .inr (by simp)
      · rw [zab _ _ e] at h1; exact .inl ⟨h1, by simp [zaa, e] at h2 |-; exact h2⟩
    · exact .inr (List.mem_cons_of_mem _ h1)

def rst (hp : Hp) (rs : List Nat) : Hp := λk => if k < 100 \/ k ∈ rs then hp k else none
theorem zda {hp : Hp} {rs : List Nat} {k : Nat} {b : Blk} (h : rst hp rs k = some b) : hp k = some b := by
  unfold rst at h; split at h
  · exact h
  · cases h
theorem zfa {hp hp' : Hp} {rs : List Nat} (h : ∀ k, (k < 100 \/ k ∈ rs) -> hp k = hp' k) : rst hp rs = rst hp' rs := by
  funext k; unfold rst; split
  · rename_i hk; exact h k hk
  · rfl

def zc7 (D : Nat -> Prop) (ns : List (Nat × Blk)) : Nat -> Prop := λk => D k \/ k ∈ zaa ns

structure Turn (r' : Nat -> Nat) (D' : Nat -> Prop) (W W' : World) (ws ns : List (Nat × Blk)) : Prop where
  os : W'.os = W.os
  tape : W'.tape = W.tape
  output : W'.output = W.output
  size : W.heap.size <= W'.heap.size
  same : ∀ k, k < W.heap.size -> (∀ p ∈ ws, r' p.1 ≠ k) -> W'.heap[k]? = W.heap[k]?
  has : ∀ p ∈ ws ++ ns, W'.heap[r' p.1]? = some (p.2.obj r') /\ p.2.ids D'
  fresh : ∀ p ∈ ns, W.heap.size <= r' p.1
  apart : ∀ p ∈ ns, ∀ q ∈ ns, r' p.1 = r' q.1 -> p.1 = q.1

theorem Turn.of_below {r : Nat -> Nat} {D : Nat -> Prop} {W W' : World} (h : Below W.heap.size W W') : Turn r D W W' [] [] :=
  ⟨h.os, h.tape, h.output, h.size, λk hk _ => h.block k hk, λp hp => by simp at hp, λp hp => by simp at hp, λp hp => by simp at hp⟩

def Fs (P : Program) : Fence := { fn := λf => ∃ fn, P.funcs[f]? = some fn, depth := none, alive := false }
abbrev zd8 (P : Program) (f : FuncId) (args : Array Value) (W : World) (R : Ending -> World -> Prop) : Prop := CallsIn (Fs P) 0 P f args W R
theorem zd8.mono {P : Program} {f : FuncId} {args : Array Value} {W : World} {R R' : Ending -> World -> Prop} (h : zd8 P f args W R) (hr : ∀ e w, R e w -> R' e w) : zd8 P f args W R' := CallsIn.mono h hr
theorem zd4 (P : Program) (n : Nat) : (Fs P).room n := λ_ h => by simp [Fs] at h
theorem zd8.calls {P : Program} {f : FuncId} {args : Array Value} {W : World} {R : Ending -> World -> Prop} (h : zd8 P f args W R) : Calls P f args W R := λcs => by
  obtain ⟨e, w', fr, r, s, x⟩ := h.2 cs (zd4 P _)
  refine ⟨e, w', fr, r, ?_, x⟩
  cases e with
  | returned v => exact stepsIn_wide.1 (StepsIn.mono (λm _ => fenced_wide P m) s)
  | panicked ch => exact stepsIn_wide.1 (StepsIn.mono (λm _ => fenced_wide P m) s)
  | outgrown => exact s
theorem zff {P : Program} {f : FuncId} {args : Array Value} {W W' : World} {x : Next} (h : (callFunc f args).run P W = .ok x W') : ∃ fn, P.funcs[f]? = some fn := by
  unfold callFunc at h
  simp only [Sem.run_bind, run_program, Result.andThen_ok] at h
  cases hf : P.funcs[f]? with
  | none => simp [hf, stuck] at h
  | some fn => exact ⟨fn, rfl⟩

theorem zsf {P : Program} {o : Oper} {ρ : Operand -> Value} {W W' : World} {x : Next} (h : (execOp ρ o).run P W = .ok x W') : ∀ f, o.about P W ρ = some f -> (Fs P).fn f := by
  intro f hf
  unfold Oper.about at hf
  unfold execOp at h
  split at hf
  · rename_i c hc
    simp only [hc, Sem.run_bind] at h
    cases hr : (resolve ρ c o.type).run P W with
    | halt y w => rw [hr] at hf; cases hf
    | ok dd w =>
      rw [hr] at hf h
      simp only [Result.andThen_ok] at h
      have ht := invoke_tie P w dd.target dd.args
      have hf' : dd.target.leads P w dd.args = some f := hf
      split at ht
      all_goals first
        | (rcases ht with ⟨g, args', w', h1, h2⟩ | ⟨y, w', h2⟩
           · rw [hf'] at h1
             cases h1
             rw [h2] at h
             exact zff h
           · rw [h2] at h
             cases h)
        | (rw [ht] at hf'; cases hf')
  · cases hf

def znz (P : Program) (o : Oper) (a : Act) (W : World) (R Rp : Value -> World -> Prop) : Prop :=
  match (execOp a.eval o).run P W with
  | .ok (.value u) W' => R u W'
  | .ok .skip W' => R undef W'
  | .ok (.enter f args) W' => zd8 P f args W' (λe W'' => match e with
      | .returned u => R u W''
      | .panicked ch => ∃ pv, ch = [{ v := pv, recovered := false }] /\ Rp pv W''
      | .outgrown => False)
  | .halt (.panic pv) W' => o.about P W a.eval = none /\ Rp pv W'
  | _ => False

def zqi (o : Oper) (r : Nat -> Nat) (D : Nat -> Prop) (ts : Nat -> Value) (a : Act) : Prop :=
  ∀ t, Operand.tmp t ∈ o.op.operands -> ts t = zcm \/ (a.tmps.getD t undef = ren r (ts t) /\ zap D (ts t))

def OpD (P : Program) (o : Oper) (ts : Nat -> Value) (hp : Hp) (e : Eff) : Prop :=
  ∀ r D a W, zqi o r D ts a -> Sat r D hp W -> Inj r D -> (∀ k, k < 100 -> D k -> r k = k) -> (∀ k, dom hp k -> D k) -> (∀ p ∈ e.ns, ¬ D p.1 /\ 100 <= p.1) ->
    znz P o a W (λu W' => e.pan = none /\ ∃ r', (∀ k, D k -> r' k = r k) /\ u = ren r' e.v /\ zap (zc7 D e.ns) e.v /\ Turn r' (zc7 D e.ns) W W' e.ws e.ns)
      (λpv W' => e.pan = some pv /\ Below W.heap.size W W')

structure OKP where
  ok : Oper -> (Nat -> Value) -> Nat -> Hp -> Eff -> Prop
  congr : ∀ o ts ts' yc yc' hp e, (∀ t, Operand.tmp t ∈ o.op.operands -> ts t = ts' t) -> (e.yl = true -> yc = yc') -> ok o ts yc hp e -> ok o ts' yc' hp e
  yw : ∀ o ts yc hp e o' ts' yc' hp' e', ok o ts yc hp e -> ok o' ts' yc' hp' e' -> e.yl = true -> e'.yl = true -> zaa e.ws = zaa e'.ws
  un : Oper -> (Nat -> Value) -> Prop
  uncongr : ∀ o ts ts', (∀ t, Operand.tmp t ∈ o.op.operands -> ts t = ts' t) -> un o ts -> un o ts'

theorem zh0 (ts : Nat -> Value) {x y : Option Tmp} (u v : Value) (h : ∀ d, x = some d -> y ≠ some d) : zcx (zcx ts x u) y v = zcx (zcx ts y v) x u := by
  cases x with
  | none => rfl
  | some d =>
    cases y with
    | none => rfl
    | some e => exact znv _ _ _ (λhe => h d rfl (by rw [he]))
theorem zl5 (ts : Nat -> Value) {x : Option Tmp} {t : Nat} (v : Value) (h : ∀ d, x = some d -> t ≠ d) : zcx ts x v t = ts t := by
  cases x with
  | none => rfl
  | some d => exact zab _ _ (h d rfl)

structure St where
  ts : Nat -> Value
  hp : Hp
  lg : Nat -> List Nat × List Nat
  yc : Nat
  yd : Bool
  pn : Option Value
  wr : Bool

def St.after (s : St) (i : Nat) (o : Oper) (e : Eff) : St :=
  { ts := zcx s.ts o.dst e.v, hp := zbi s.hp (e.ws ++ e.ns), lg := upd s.lg i (e.rs, zaa e.ws ++ zaa e.ns), yc := if e.yl then s.yc + 1 else s.yc, yd := s.yd || (e.yl && e.ws.isEmpty), pn := s.pn.or e.pan, wr := s.wr || !e.ws.isEmpty }
def St.pass (s : St) (o : Oper) : St := { s with ts := zcx s.ts o.dst undef }

def zcs (ops : Array Oper) (o : Oper) (ts : Nat -> Value) : Option Bool :=
  match o.guard with
  | none => some true
  | some (j, w) =>
    match (ops[j]?).bind (·.dst) with
    | some d => match ts d with
      | .bool b => some (b == w)
      | .tuple _ => some false
      | _ => none
    | none => some false

def zty (md : Region.Mode) (ops : Array Oper) : Nat -> Nat -> Nat -> Bool
  | 0, _, _ => false
  | f + 1, i, j => match ops[i]? with
    | some o => o.after.any λe => Region.binds md e && (e.on == j || zty md ops f e.on j)
    | none => false
def zja (md : Region.Mode) (ops : Array Oper) (i j : Nat) : Bool := zty md ops 3 i j

structure Fits (md : Region.Mode) (ops : Array Oper) (base i : Nat) (s : St) (e : Eff) : Prop where
  wsrs : ∀ k ∈ zaa e.ws, k ∈ e.rs /\ dom s.hp k /\ 100 <= k
  ids : ∀ k ∈ zaa e.ns, base + 8 * i <= k /\ k < base + 8 * i + 8 /\ 100 <= k
  nodup : ∀ k ∈ zaa e.ns, s.hp k = none
  once : ∀ k b c, (k, b) ∈ e.ws ++ e.ns -> (k, c) ∈ e.ws ++ e.ns -> b = c
  log : ∀ j, zja md ops i j = false -> (∀ k ∈ e.rs ++ zaa e.ns, k ∉ (s.lg j).2) /\ (∀ k ∈ zaa e.ws ++ zaa e.ns, k ∉ (s.lg j).1)
  new : s.lg i = ([], [])
  pan : e.pan ≠ none -> s.pn = none
  yl : e.yl = true -> e.ws = [] -> s.yd = false

def gOp (OK : OKP) (md : Region.Mode) (ops : Array Oper) (base i : Nat) (K : St -> Prop) (s : St) : Prop :=
  match ops[i]? with
  | none => K s
  | some o => match zcs ops o s.ts with
    | some true => ∃ e, OK.ok o s.ts s.yc (rst s.hp e.rs) e /\ Fits md ops base i s e /\ K (s.after i o e)
    | some false => OK.un o s.ts /\ K (s.pass o)
    | none => False

def zmg (OK : OKP) (md : Region.Mode) (ops : Array Oper) (base : Nat) (K : St -> Prop) : Nat -> Array Bool -> St -> Prop
  | 0, listed, s => Region.ready md ops listed = [] /\ K s
  | fuel + 1, listed, s =>
    (Region.ready md ops listed = [] -> K s) /\
    ∀ i ∈ Region.ready md ops listed, gOp OK md ops base i (zmg OK md ops base K fuel (listed.setIfInBounds i true)) s

def zfo (OK : OKP) (md : Region.Mode) (ops : Array Oper) (base i : Nat) (o : Oper) (e : Option Eff) (s : St) : Prop :=
  match e with
  | some e => zcs ops o s.ts = some true /\ OK.ok o s.ts s.yc (rst s.hp e.rs) e /\ Fits md ops base i s e
  | none => zcs ops o s.ts = some false /\ OK.un o s.ts

def St.next (s : St) (i : Nat) (o : Oper) : Option Eff -> St
  | some e => s.after i o e
  | none => s.pass o

theorem zi2 {OK : OKP} {md : Region.Mode} {ops : Array Oper} {base i : Nat} {o : Oper} {e : Option Eff} {s : St} {K : St -> Prop} (hi : ops[i]? = some o) (hy : zfo OK md ops base i o e s) (h : K (s.next i o e)) :
    gOp OK md ops base i K s := by
  unfold gOp; simp only [hi]
  cases e with
  | some e => obtain ⟨h1, h2, h3⟩ := hy; simp only [h1]; exact ⟨e, h2, h3, h⟩
  | none => simp only [zfo] at hy; simp only [hy.1]; exact ⟨hy.2, h⟩

theorem zlt {OK : OKP} {md : Region.Mode} {ops : Array Oper} {base i : Nat} {o : Oper} {s : St} {K : St -> Prop} (hi : ops[i]? = some o) (h : gOp OK md ops base i K s) :
    ∃ e, zfo OK md ops base i o e s /\ K (s.next i o e) := by
  unfold gOp at h; simp only [hi] at h
  cases hw : zcs ops o s.ts with
  | none => rw [hw] at h; exact h.elim
  | some b =>
    cases b with
    | true => rw [hw] at h; obtain ⟨e, h1, h2, h3⟩ := h; exact ⟨some e, ⟨hw, h1, h2⟩, h3⟩
    | false => rw [hw] at h; exact ⟨none, ⟨hw, h.1⟩, h.2⟩

theorem zck {ops : Array Oper} {o : Oper} {ts ts' : Nat -> Value} (h : ∀ t ∈ o.looksAt ops, ts t = ts' t) : zcs ops o ts = zcs ops o ts' := by
  unfold zcs
  cases hg : o.guard with
  | none => rfl
  | some g =>
    obtain ⟨j, w⟩ := g
    cases hd : (ops[j]?).bind (·.dst) with
    | none => simp [hd]
    | some d =>
      have : ts d = ts' d := h d (by simp [Oper.looksAt, hg, hd])
      simp [hd, this]

theorem OpD.congr {P : Program} {o : Oper} {ts ts' : Nat -> Value} {hp : Hp} {e : Eff} (h : OpD P o ts hp e) (ht : ∀ t, Operand.tmp t ∈ o.op.operands -> ts t = ts' t) : OpD P o ts' hp e :=
  λr D a W hr => h r D a W (λt ht' => by rw [ht t ht']; exact hr t ht')

theorem zbp {ops : Array Oper} {o : Oper} {t : Tmp} (h : Operand.tmp t ∈ o.op.operands) : t ∈ o.looksAt ops :=
  List.mem_append_left _ (List.mem_filterMap.2 ⟨.tmp t, by simpa using h, rfl⟩)

theorem zr7 {OK : OKP} {md : Region.Mode} {ops : Array Oper} {base i j : Nat} {oi oj : Oper} {ei ej : Option Eff} {s : St} (hne : i ≠ j)
    (hap : oi.apart ops oj = true) (hw : zja md ops j i = false) (hw' : zja md ops i j = false)
    (hy : zfo OK md ops base i oi ei s) (h : zfo OK md ops base j oj ej (s.next i oi ei)) :
    zfo OK md ops base j oj ej s /\ zfo OK md ops base i oi ei (s.next j oj ej) /\ (s.next i oi ei).next j oj ej = (s.next j oj ej).next i oi ei := by
  obtain ⟨h1, h2, h3⟩ := Oper.apart_spec hap
  have tsj : ∀ v, ∀ t ∈ oj.looksAt ops, zcx s.ts oi.dst v t = s.ts t := λv t ht => zl5 _ _ (λd hd e => h1 d hd (e ▸ ht))
  have tsi : ∀ v, ∀ t ∈ oi.looksAt ops, zcx s.ts oj.dst v t = s.ts t := λv t ht => zl5 _ _ (λd hd e => h3 d hd (e ▸ ht))
  cases ei with
  | none =>
    cases ej with
    | none =>
      refine ⟨?_, ?_, ?_⟩
      · simp only [zfo, St.next, St.pass] at h |-; rw [<- h.1]; exact ⟨zck (λt ht => (tsj _ t ht).symm), OK.uncongr _ _ _ (λt ht => tsj _ t (zbp ht)) h.2⟩
      · simp only [zfo, St.next, St.pass] at hy |-; rw [<- hy.1]; exact ⟨zck (λt ht => tsi _ t ht), OK.uncongr _ _ _ (λt ht => (tsi _ t (zbp ht)).symm) hy.2⟩
      · simp only [St.next, St.pass]; rw [zh0 _ _ _ h2]
    | some e =>
      obtain ⟨a1, a2, a3⟩ := h
      refine ⟨⟨?_, ?_, ?_⟩, ?_, ?_⟩
      · rw [<- a1]; exact zck (λt ht => (tsj _ t ht).symm)
      · exact OK.congr _ _ _ _ _ _ _ (λt ht => tsj _ t (zbp ht)) (λ_ => rfl) a2
      · exact ⟨a3.wsrs, a3.ids, a3.nodup, a3.once, a3.log, a3.new, a3.pan, a3.yl⟩
      · simp only [zfo, St.next, St.after] at hy |-; rw [<- hy.1]; exact ⟨zck (λt ht => tsi _ t ht), OK.uncongr _ _ _ (λt ht => (tsi _ t (zbp ht)).symm) hy.2⟩
      · simp only [St.next, St.pass, St.after]; rw [zh0 _ _ _ h2]
  | some e =>
    obtain ⟨b1, b2, b3⟩ := hy
    cases ej with
    | none =>
      refine ⟨?_, ⟨?_, ?_, ?_⟩, ?_⟩
      · simp only [zfo, St.next, St.after] at h |-; rw [<- h.1]; exact ⟨zck (λt ht => (tsj _ t ht).symm), OK.uncongr _ _ _ (λt ht => tsj _ t (zbp ht)) h.2⟩
      · simp only [St.next, St.pass]; rw [<- b1]; exact zck (λt ht => tsi _ t ht)
      · simp only [St.next, St.pass]; exact OK.congr _ _ _ _ _ _ _ (λt ht => (tsi _ t (zbp ht)).symm) (λ_ => rfl) b2
      · exact ⟨b3.wsrs, b3.ids, b3.nodup, b3.once, b3.log, b3.new, b3.pan, b3.yl⟩
      · simp only [St.next, St.pass, St.after]; rw [zh0 _ _ _ h2]
    | some f =>
      obtain ⟨a1, a2, a3⟩ := h
      simp only [St.next, St.after] at a1 a2 a3
      have lgi : (upd s.lg i (e.rs, zaa e.ws ++ zaa e.ns)) i = (e.rs, zaa e.ws ++ zaa e.ns) := za9 _ _ _
      have hlog := a3.log i hw
      simp only [lgi] at hlog
      -- what e touches f does not turn, and the other way about
      have k1 : ∀ k ∈ f.rs ++ zaa f.ns, k ∉ zaa (e.ws ++ e.ns) := λk hk hm => hlog.1 k hk (by simpa [zaa] using hm)
      have k2 : ∀ k ∈ zaa (f.ws ++ f.ns), k ∉ e.rs := λk hk => hlog.2 k (by simpa [zaa] using hk)
      have k3 : ∀ k ∈ zaa (e.ws ++ e.ns), k ∉ zaa (f.ws ++ f.ns) := λk hk hm => by
        have hm' : k ∈ zaa f.ws \/ k ∈ zaa f.ns := by simpa [zaa] using hm
        rcases hm' with hm' | hm'
        · exact k1 k (List.mem_append_left _ (a3.wsrs k hm').1) hk
        · exact k1 k (List.mem_append_right _ hm') hk
      have big : ∀ k ∈ zaa (e.ws ++ e.ns), 100 <= k := λk hk => by
        have : k ∈ zaa e.ws \/ k ∈ zaa e.ns := by simpa [zaa] using hk
        rcases this with h | h
        · exact (b3.wsrs k h).2.2
        · exact (b3.ids k h).2.2
      have big' : ∀ k ∈ zaa (f.ws ++ f.ns), 100 <= k := λk hk => by
        have : k ∈ zaa f.ws \/ k ∈ zaa f.ns := by simpa [zaa] using hk
        rcases this with h | h
        · exact (a3.wsrs k h).2.2
        · exact (a3.ids k h).2.2
      have r1 : rst (zbi s.hp (e.ws ++ e.ns)) f.rs = rst s.hp f.rs := zfa λk hk => za6 λhm => by
        rcases hk with hk | hk
        · have := big k hm; omega
        · exact k1 k (List.mem_append_left _ hk) hm
      have r2 : rst (zbi s.hp (f.ws ++ f.ns)) e.rs = rst s.hp e.rs := zfa λk hk => za6 λhm => by
        rcases hk with hk | hk
        · have := big' k hm; omega
        · exact k2 k hm hk
      have lgj : s.lg j = ([], []) := by have := a3.new; dsimp only at this; rwa [zab _ _ (Ne.symm hne)] at this
      have nb : f.yl = true -> e.yl = false := λhf => by
        cases he : e.yl with
        | false => rfl
        | true =>
          have hk := OK.yw _ _ _ _ _ _ _ _ _ _ b2 a2 he hf
          by_cases hw0 : f.ws = []
          · rw [hw0] at hk
            have he0 : e.ws = [] := by simpa [zaa] using hk
            have := a3.yl hf hw0
            rw [he, he0] at this
            simp at this
          · obtain ⟨p, l, hp⟩ := List.exists_cons_of_ne_nil hw0
            have hm : p.1 ∈ zaa f.ws := zag.2 ⟨p, by rw [hp]; simp, rfl⟩
            have h9 := k1 p.1 (List.mem_append_left _ (a3.wsrs p.1 hm).1)
            rw [<- hk] at hm
            exact absurd (by simp only [zaa, List.map_append, List.mem_append]; exact .inl (by simpa [zaa] using hm)) h9
      have yls : f.yl = true -> e.yl = false /\ (f.ws = [] -> s.yd = false) := λhf => ⟨nb hf, λhw0 => by
        have := a3.yl hf hw0; simp only [Bool.or_eq_false_iff] at this; exact this.1⟩
      have yls' : e.yl = true -> f.yl = false := λhe => by
        cases hf : f.yl with
        | false => rfl
        | true => rw [(yls hf).1] at he; cases he
      have pns : f.pan ≠ none -> e.pan = none /\ s.pn = none := λhf => by
        have := a3.pan hf; simp only [Option.or_eq_none_iff] at this; exact ⟨this.2, this.1⟩
      have pns' : e.pan ≠ none -> f.pan = none := λhe => by
        cases hf : f.pan with
        | none => rfl
        | some v => exact absurd (pns (by rw [hf]; simp)).1 he
      refine ⟨⟨?_, ?_, ?_⟩, ⟨?_, ?_, ?_⟩, ?_⟩
      · rw [<- a1]; exact zck (λt ht => (tsj _ t ht).symm)
      · rw [<- r1]; exact OK.congr _ _ _ _ _ _ _ (λt ht => tsj _ t (zbp ht)) (λhf => by rw [(yls hf).1]; simp) a2
      · refine ⟨λk hk => ⟨(a3.wsrs k hk).1, ?_, (a3.wsrs k hk).2.2⟩, a3.ids, λk hk => ?_, a3.once, λq hq => ?_, lgj, λhf => (pns hf).2, λhf hw0 => (yls hf).2 hw0⟩
        · rcases zjx.1 (a3.wsrs k hk).2.1 with h | h
          · exact h
          · exact absurd h (k1 k (List.mem_append_left _ (a3.wsrs k hk).1))
        · have := a3.nodup k hk
          dsimp only at this
          rwa [za6 (k1 k (List.mem_append_right _ hk))] at this
        · by_cases hqi : q = i
          · subst hqi; rw [b3.new]; simp
          · have := a3.log q hq; dsimp only at this; rwa [zab _ _ hqi] at this
      · simp only [St.next, St.after]; rw [<- b1]; exact zck (λt ht => tsi _ t ht)
      · simp only [St.next, St.after]; rw [r2]; exact OK.congr _ _ _ _ _ _ _ (λt ht => (tsi _ t (zbp ht)).symm) (λhe => by rw [yls' he]; simp) b2
      · simp only [St.next, St.after]
        refine ⟨λk hk => ⟨(b3.wsrs k hk).1, zjx.2 (.inl (b3.wsrs k hk).2.1), (b3.wsrs k hk).2.2⟩, b3.ids, λk hk => ?_, b3.once, λq hq => ?_, ?_, λhe => ?_, λhe hw0 => ?_⟩
        · show zbi s.hp (f.ws ++ f.ns) k = none
          rw [za6 (λhm => k3 k (by simpa [zaa] using Or.inr (by simpa [zaa] using hk)) hm)]
          exact b3.nodup k hk
        · by_cases hqj : q = j
          · subst hqj
            simp only [za9]
            refine ⟨λk hk hm => ?_, λk hk hm => ?_⟩
            · rcases List.mem_append.1 hk with hk | hk
              · exact k2 k (by simpa [zaa] using hm) hk
              · exact k3 k (by simp [zaa] at hk |-; exact .inr hk) (by simpa [zaa] using hm)
            · exact k1 k (List.mem_append_left _ hm) (by simpa [zaa] using hk)
          · simp only [zab _ _ hqj]; exact b3.log q hq
        · show upd s.lg j _ i = _
          rw [zab _ _ hne]; exact b3.new
        · show s.pn.or f.pan = none
          rw [b3.pan he, pns' he]; rfl
        · show (s.yd || (f.yl && f.ws.isEmpty)) = false
          rw [b3.yl he hw0, yls' he]; rfl
      · simp only [St.next, St.after]
        rw [zh0 _ _ _ h2, z0y k3, znv _ _ _ hne, Bool.or_right_comm, Bool.or_right_comm s.wr]
        have e1 : (s.pn.or e.pan).or f.pan = (s.pn.or f.pan).or e.pan := by
          cases he : e.pan with
          | none => cases hf : f.pan <;> cases s.pn <;> rfl
          | some v => rw [pns' (by rw [he]; simp)]; cases s.pn <;> rfl
        have e2 : (if f.yl = true then (if e.yl = true then s.yc + 1 else s.yc) + 1 else if e.yl = true then s.yc + 1 else s.yc) = (if e.yl = true then (if f.yl = true then s.yc + 1 else s.yc) + 1 else if f.yl = true then s.yc + 1 else s.yc) := by
          cases e.yl <;> cases f.yl <;> rfl
        rw [e1, e2]

def zle (md : Region.Mode) (ops : Array Oper) (listed : Array Bool) : Prop :=
  ∀ k o, ops[k]? = some o -> listed.getD k false = true -> ∀ e ∈ o.after, Region.binds md e = true -> listed.getD e.on false = true
theorem jgr {listed : Array Bool} {k : Nat} (h0 : listed.getD k true = false) (h1 : listed.getD k false = true) : False := by
  rcases Nat.lt_or_ge k listed.size with h' | h'
  · simp [h'] at h0 h1; rw [h0] at h1; cases h1
  · simp [Array.getElem?_eq_none h'] at h1
theorem zk2 {md : Region.Mode} {ops : Array Oper} {listed : Array Bool} (hcl : zle md ops listed) {j : Nat} (hj : listed.getD j true = false) : ∀ (f i : Nat), (∀ o, ops[i]? = some o -> ∀ e ∈ o.after, Region.binds md e = true -> listed.getD e.on false = true) -> zty md ops f i j = false
  | 0, _, _ => rfl
  | f + 1, i, h => by
    unfold zty
    cases ho : ops[i]? with
    | none => rfl
    | some o =>
      simp only
      rw [Array.any_eq_false]
      intro k hk
      have hm : o.after[k] ∈ o.after := Array.getElem_mem hk
      cases hb : Region.binds md o.after[k] with
      | false => simp
      | true =>
        have hl := h o ho _ hm hb
        have hne : (o.after[k].on == j) = false := by
          rw [beq_eq_false_iff_ne]
          exact λe => jgr hj (e ▸ hl)
        rw [hne, zk2 hcl hj f _ (λo' ho' e he hb' => hcl _ o' ho' hl e he hb')]
        simp
theorem zle.set {md : Region.Mode} {ops : Array Oper} {listed : Array Bool} (hcl : zle md ops listed) {j : Nat} (hj : j ∈ Region.ready md ops listed) : zle md ops (listed.setIfInBounds j true) := by
  have mono : ∀ {x : Nat}, listed.getD x false = true -> (listed.setIfInBounds j true).getD x false = true := λ{x} hx => by
    by_cases c : j = x
    · subst c
      rcases Nat.lt_or_ge j listed.size with h' | h'
      · simp [h']
      · simp [Array.getElem?_eq_none h'] at hx
    · rw [getD_set_ne false c]; exact hx
  intro k o hk hl e he hb
  by_cases c : j = k
  · subst c
    obtain ⟨_, oj, hoj, hall⟩ := mem_ready.1 hj
    rw [hk] at hoj
    cases hoj
    exact mono (hall e he hb)
  · rw [getD_set_ne false c] at hl
    exact mono (hcl k o hk hl e he hb)
theorem zp6 {OK : OKP} {md : Region.Mode} {ops : Array Oper} {base : Nat} {K : St -> Prop} {i : Nat} {oi : Oper} {ei : Option Eff} (hi : ops[i]? = some oi) :
    ∀ (fuel : Nat) (listed : Array Bool) (s : St), zle md ops listed ->
      (∀ j oj, ops[j]? = some oj -> j ≠ i -> listed.getD j true = false -> (∀ e ∈ oj.after, Region.binds md e = true -> e.on ≠ i) -> oi.apart ops oj = true) ->
      i ∈ Region.ready md ops listed -> zfo OK md ops base i oi ei s ->
      zmg OK md ops base K fuel (listed.setIfInBounds i true) (s.next i oi ei) -> zmg OK md ops base K (fuel + 1) listed s := by
  intro fuel
  induction fuel with
  | zero =>
    intro listed s _ _ hr hy H
    refine ⟨λh => (by rw [h] at hr; cases hr), λj hj => ?_⟩
    by_cases hji : j = i
    · subst hji; exact zi2 hi hy H
    · have := ready_mono hj hji
      rw [H.1] at this
      cases this
  | succ fuel ih =>
    intro listed s hcl hfree hr hy H
    refine ⟨λh => (by rw [h] at hr; cases hr), λj hj => ?_⟩
    by_cases hji : j = i
    · subst hji; exact zi2 hi hy H
    · have h1 := H.2 j (ready_mono hj hji)
      obtain ⟨hjun, oj, hoj, hall⟩ := mem_ready.1 hj
      obtain ⟨hiun, oi', hoi', halli⟩ := mem_ready.1 hr
      rw [hi] at hoi'; cases hoi'
      have hnot : ∀ e ∈ oj.after, Region.binds md e = true -> e.on ≠ i := λe he hb heq => jgr hiun (heq ▸ hall e he hb)
      have hw1 : zja md ops j i = false := zk2 hcl hiun 3 j λo ho e he hb => by rw [hoj] at ho; cases ho; exact hall e he hb
      have hw2 : zja md ops i j = false := zk2 hcl hjun 3 i λo ho e he hb => by rw [hi] at ho; cases ho; exact halli e he hb
      obtain ⟨ej, hyj, hK⟩ := zlt hoj h1
      obtain ⟨c1, c2, c3⟩ := zr7 (Ne.symm hji) (hfree j oj hoj hji hjun hnot) hw1 hw2 hy hyj
      have hfree' : ∀ k ok, ops[k]? = some ok -> k ≠ i -> (listed.setIfInBounds j true).getD k true = false ->
          (∀ e ∈ ok.after, Region.binds md e = true -> e.on ≠ i) -> oi.apart ops ok = true := λk ok hk hki hun hno => by
        refine hfree k ok hk hki ?_ hno
        by_cases hjk : j = k
        · subst hjk; exact hjun
        · rw [getD_set_ne true hjk] at hun; exact hun
      refine zi2 hoj c1 (ih (listed.setIfInBounds j true) _ (hcl.set hj) hfree' (ready_mono hr (Ne.symm hji)) c2 ?_)
      rw [Array.setIfInBounds_comm _ _ hji, <- c3]
      exact hK

def zp7 (OK : OKP) (md : Region.Mode) (ops : Array Oper) (base : Nat) (K : St -> Prop) : Nat -> List Oper -> St -> Prop
  | _, [], s => K s
  | k, o :: rest, s => match zcs ops o s.ts with
    | some true => ∃ e, OK.ok o s.ts s.yc (rst s.hp e.rs) e /\ Fits md ops base k s e /\ zp7 OK md ops base K (k + 1) rest (s.after k o e)
    | some false => OK.un o s.ts /\ zp7 OK md ops base K (k + 1) rest (s.pass o)
    | none => False

theorem zmh {OK : OKP} {md : Region.Mode} {ops : Array Oper} {base : Nat} {K : St -> Prop} : ∀ (l : List Oper) (k : Nat) (listed : Array Bool) (s : St), zle md ops listed -> (∀ j, l[j]? = ops[k + j]?) ->
    Region.lexFrom md ops l.length k listed = true -> zp7 OK md ops base K k l s -> zmg OK md ops base K l.length listed s
  | [], _, _, _, _, _, hB, h => ⟨by simpa [Region.lexFrom] using hB, h⟩
  | o :: l, k, listed, s, hcl, hl, hB, h => by
    have h0 : ops[k]? = some o := by simpa using (hl 0).symm
    simp only [List.length_cons, Region.lexFrom, Bool.and_eq_true] at hB
    obtain ⟨⟨hr, hf⟩, hB'⟩ := hB
    have hst : gOp OK md ops base k (zp7 OK md ops base K (k + 1) l) s := by unfold gOp; simp only [h0]; exact h
    obtain ⟨e, hy, hK⟩ := zlt h0 hst
    exact zp6 h0 l.length listed s hcl (Region.free_spec h0 hf) (by simpa using hr) hy
      (zmh l (k + 1) _ _ (hcl.set (by simpa using hr)) (λj => by have := hl (j + 1); simpa [Nat.add_assoc, Nat.add_comm 1 j] using this) hB' hK)


structure Ext where
  X : Nat -> (Nat -> Prop) -> World -> Prop
  ok : ∀ c S W W', X c S W -> (∀ k, S k -> W'.heap[k]? = W.heap[k]?) -> W'.os = W.os -> W'.tape = W.tape -> W'.output = W.output -> W.heap.size <= W'.heap.size -> X c S W'

structure Sh where
  w : Nat
  a : Nat
  ob : Nat -> Blk
structure YG where
  l : Nat
  xs : List (Array Value)
  stop : Nat
  pn : Option Value
  sh : Option Sh
def YG.still : YG := ⟨0, [], 0, none, none⟩
def YG.has (y : YG) (c : Nat) (W : World) : Prop := match y.sh with
  | none => True
  | some s => W.heap[s.a]? = some (s.ob c).obj0
def YG.at (y : YG) (k : Nat) : Prop := match y.sh with
  | none => False
  | some s => k = s.a
def YG.pan (y : YG) (c : Nat) : Option Value := if c = y.stop then y.pn else none

structure Ctx where
  E : Ext
  hp0 : Hp
  r0 : Nat -> Nat
  G : Hp
  Y : Option YG

def GOK (G : Hp) (W : World) : Prop := ∀ k b, G k = some b -> W.heap[k]? = some b.obj0

def zft (P : Program) (G : Hp) (E : Ext) (y : YG) : Prop :=
  ∀ c x S W, GOK G W -> y.xs[c]? = some x -> c <= y.stop -> E.X c S W -> (∀ k, S k -> k < W.heap.size) -> y.has c W ->
    YieldAt (Fs P) 0 P y.l x W λe W' => (match y.pan c with | none => e = .returned (.bool (c != y.stop)) | some pv => e = .panicked [{ v := pv, recovered := false }]) /\ GOK G W' /\ W.heap.size <= W'.heap.size /\ (∀ k, k < W.heap.size -> ¬ S k -> ¬ y.at k -> W'.heap[k]? = W.heap[k]?) /\ y.has (c + 1) W' /\
      ∃ S', E.X (c + 1) S' W' /\ (∀ k, S' k -> k < W'.heap.size) /\ ∀ k, S' k -> k < W.heap.size -> S k
def YG.fine (y : YG) (C : Ctx) : Prop := match y.sh with
  | none => True
  | some s => dom C.hp0 s.w /\ C.r0 s.w = s.a /\ ∀ c, (∀ r, (s.ob c).obj r = (s.ob c).obj0) /\ ∀ D, (s.ob c).ids D
def zg9 (P : Program) (C : Ctx) (y : YG) : Prop := zft P C.G C.E y /\ y.fine C

def zwr (D : Nat) : Deferred := { target := .collected D, args := #[] }

structure RI (C : Ctx) (n : Nat) (d : List Deferred) (r : Nat -> Nat) (ts : Nat -> Value) (hp : Hp) (yc : Nat) (a : Act) (W : World) : Prop where
  size : a.tmps.size = n
  rel : Rel r (dom hp) ts a
  sat : Sat r (dom hp) hp W
  inj : Inj r (dom hp)
  ext : ∃ (S : Nat -> Prop) (ms : List Nat), C.E.X yc S W /\ (∀ k, S k -> k < W.heap.size) /\ (∀ i, dom hp i -> 100 <= i -> ¬ S (r i)) /\ (a.defers = ms.map zwr ++ d /\ ms.Nodup) /\ ∀ D ∈ ms, W.heap[D]? = some (.deferred (some [])) /\ ¬ S D /\ C.Y ≠ some .still
  keep : ∀ i, dom C.hp0 i -> dom hp i /\ r i = C.r0 i
  glob : ∀ k, k < 100 -> hp k = C.G k
  low : ∀ k, k < 100 -> dom hp k -> r k = k

section
variable {P : Program} {C : Ctx} {n : Nat} {d : List Deferred} {r : Nat -> Nat} {ts : Nat -> Value} {hp : Hp} {yc : Nat} {a : Act} {W : World}

theorem RI.lt (h : RI C n d r ts hp yc a W) {k : Nat} (hk : dom hp k) : r k < W.heap.size := by
  unfold dom at hk
  cases hb : hp k with
  | none => exact absurd hb hk
  | some b => exact (Array.getElem?_eq_some_iff.1 (h.sat k b hb).1).1

theorem RI.ne_mark (h : RI C n d r ts hp yc a W) {k D : Nat} (hk : dom hp k) (hD : W.heap[D]? = some (.deferred (some []))) : r k ≠ D := λe => by
  unfold dom at hk
  cases hb : hp k with
  | none => exact absurd hb hk
  | some b =>
    have := (h.sat k b hb).1
    rw [e, hD] at this; exact (Blk.obj_def this).elim

theorem RI.elsewhere (h : RI C n d r ts hp yc a W) {W' : World} (os : W'.os = W.os) (tape : W'.tape = W.tape) (output : W'.output = W.output) (size : W.heap.size <= W'.heap.size)
    (hs : ∀ k, k < W.heap.size -> W'.heap[k]? = W.heap[k]?) : RI C n d r ts hp yc a W' :=
  { h with
    sat := λk b hk => by
      have := h.sat k b hk
      exact ⟨(hs _ (h.lt (by unfold dom; rw [hk]; simp))).trans this.1, this.2⟩
    ext := by
      obtain ⟨S, ms, h1, h2, h3, h4, h5⟩ := h.ext
      exact ⟨S, ms, C.E.ok _ _ _ _ h1 (λk hk => hs k (h2 k hk)) os tape output size, λk hk => Nat.lt_of_lt_of_le (h2 k hk) size, h3, h4, λD hD => ⟨by rw [hs D (Array.getElem?_eq_some_iff.1 (h5 D hD).1).1]; exact (h5 D hD).1, (h5 D hD).2⟩⟩ }

theorem RI.drew (h : RI C n d r ts hp yc a W) : RI C n d r ts hp yc a { W with drawn := W.drawn + 1 } :=
  h.elsewhere rfl rfl rfl (Nat.le_refl _) λ_ _ => rfl

theorem RI.below (h : RI C n d r ts hp yc a W) {W' : World} (hb : Below W.heap.size W W') : RI C n d r ts hp yc a W' :=
  h.elsewhere hb.os hb.tape hb.output hb.size hb.block

theorem RI.put (h : RI C n d r ts hp yc a W) {dst : Option Tmp} (hd : ∀ d, dst = some d -> d < n) {v : Value} (hv : zap (dom hp) v) : RI C n d r (zcx ts dst v) hp yc (a.put dst (ren r v)) W :=
  { h with
    size := by cases dst <;> simp [Act.put, h.size]
    ext := by cases dst <;> exact h.ext
    rel := h.rel.put (λe he => by rw [h.size]; exact hd e he) hv }

theorem RI.put_undef (h : RI C n d r ts hp yc a W) {dst : Option Tmp} (hd : ∀ d, dst = some d -> d < n) : RI C n d r (zcx ts dst undef) hp yc (a.put dst undef) W := by
  have := h.put hd (zcv (dom hp))
  rwa [zci] at this

theorem z27 {hp : Hp} {ws ns : List (Nat × Blk)} (hws : ∀ k ∈ zaa ws, dom hp k) (k : Nat) : dom (zbi hp (ws ++ ns)) k ↔ zc7 (dom hp) ns k := by
  rw [zjx]
  unfold zc7
  constructor
  · rintro (h | h)
    · exact .inl h
    · have : k ∈ zaa ws \/ k ∈ zaa ns := by simpa [zaa] using h
      exact this.elim (λh => .inl (hws k h)) .inr
  · rintro (h | h)
    · exact .inl h
    · exact .inr (by simp [zaa] at h |-; exact .inr h)

theorem RI.after (h : RI C n d r ts hp yc a W) {dst : Option Tmp} (hd : ∀ d, dst = some d -> d < n) {e : Eff} {r' : Nat -> Nat} {W' : World} (hr : ∀ k, dom hp k -> r' k = r k)
    (hv : zap (zc7 (dom hp) e.ns) e.v) (ht : Turn r' (zc7 (dom hp) e.ns) W W' e.ws e.ns) (hws : ∀ k ∈ zaa e.ws, dom hp k /\ 100 <= k) (hns : ∀ k ∈ zaa e.ns, hp k = none /\ 100 <= k) :
    RI C n d r' (zcx ts dst e.v) (zbi hp (e.ws ++ e.ns)) yc (a.put dst (ren r' e.v)) W' := by
  have hD : dom (zbi hp (e.ws ++ e.ns)) = zc7 (dom hp) e.ns := funext λk => propext (z27 (λk hk => (hws k hk).1) k)
  have old : ∀ k, zc7 (dom hp) e.ns k -> dom hp k \/ k ∈ zaa e.ns := λk hk => hk
  have ltW : ∀ k, dom hp k -> r' k < W.heap.size := λk hk => by rw [hr k hk]; exact h.lt hk
  have fr : ∀ k, k ∈ zaa e.ns -> W.heap.size <= r' k := λk hk => by
    obtain ⟨p, hp', rfl⟩ := zag.1 hk; exact ht.fresh p hp'
  have big : ∀ k ∈ zaa (e.ws ++ e.ns), 100 <= k := λk hk => by
    have : k ∈ zaa e.ws \/ k ∈ zaa e.ns := by simpa [zaa] using hk
    exact this.elim (λh => (hws k h).2) (λh => (hns k h).2)
  have inj' : Inj r' (zc7 (dom hp) e.ns) := λk l hk hl hkl => by
    rcases old k hk with hk | hk <;> rcases old l hl with hl | hl
    · exact h.inj k l hk hl (by rw [<- hr k hk, <- hr l hl]; exact hkl)
    · have h1 := ltW k hk; have h2 := fr l hl; omega
    · have h1 := ltW l hl; have h2 := fr k hk; omega
    · obtain ⟨p, hp1, rfl⟩ := zag.1 hk
      obtain ⟨q, hq1, rfl⟩ := zag.1 hl
      exact ht.apart p hp1 q hq1 hkl
  have base : RI C n d r' ts (zbi hp (e.ws ++ e.ns)) yc a W' :=
    { size := h.size
      rel := by rw [hD]; exact h.rel.mono (λk hk => .inl hk) hr
      sat := λk b hk => by
        rw [hD]
        rcases ztx hk with ⟨h1, h2⟩ | h1
        · have hk' : dom hp k := by unfold dom; rw [h1]; simp
          have hs := h.sat k b h1
          refine ⟨?_, Blk.ids_mono (λ_ hk => .inl hk) hs.2⟩
          rw [ht.same (r' k) (ltW k hk') (λp hp1 e1 => ?_), hr k hk', hs.1, Blk.obj_congr hr hs.2]
          have hp2 : p.1 ∈ zaa e.ws := zag.2 ⟨p, hp1, rfl⟩
          have : p.1 = k := inj' _ _ (.inl (hws _ hp2).1) (.inl hk') e1
          exact h2 (by rw [<- this]; simp [zaa] at hp2 |-; exact .inl hp2)
        · exact ht.has _ h1
      inj := by rw [hD]; exact inj'
      ext := by
        obtain ⟨S, ms, h1, h2, h3, h4, h5⟩ := h.ext
        refine ⟨S, ms, C.E.ok _ _ _ _ h1 (λk hk => ht.same k (h2 k hk) λp hp1 e1 => ?_) ht.os ht.tape ht.output ht.size, λk hk => Nat.lt_of_lt_of_le (h2 k hk) ht.size, λi hi h1i hS => ?_, h4, λD hD => ⟨?_, (h5 D hD).2⟩⟩
        · have hp2 := (hws _ (zag.2 ⟨p, hp1, rfl⟩)).1
          rw [hr _ hp2] at e1
          exact h3 _ hp2 (hws _ (zag.2 ⟨p, hp1, rfl⟩)).2 (e1 ▸ hk)
        · rw [hD] at hi
          rcases old i hi with hi | hi
          · rw [hr i hi] at hS; exact h3 i hi h1i hS
          · have h6 := h2 _ hS; have h7 := fr i hi; omega
        · rw [ht.same D (Array.getElem?_eq_some_iff.1 (h5 D hD).1).1 (λp hp1 e1 => ?_)]
          · exact (h5 D hD).1
          · have hp2 := (hws _ (zag.2 ⟨p, hp1, rfl⟩)).1
            rw [hr _ hp2] at e1
            exact h.ne_mark hp2 (h5 D hD).1 e1
      keep := λi hi => ⟨by rw [hD]; exact .inl (h.keep i hi).1, by rw [hr i (h.keep i hi).1]; exact (h.keep i hi).2⟩
      glob := λk hk => by rw [za6 (λhm => by have := big k hm; omega)]; exact h.glob k hk
      low := λk hk hd => by
        rw [hD] at hd
        rcases old k hd with hd | hd
        · rw [hr k hd]; exact h.low k hk hd
        · have := (hns k hd).2; omega }
  exact base.put hd (by rw [hD]; exact hv)

abbrev Fw (P : Program) (ro : Option Nat) : Fence := { Fs P with round := ro }

theorem zgw {ro : Option Nat} {m : Nat} {o : Oper} {R Rp : Value -> World -> Prop} {next : Act -> World -> Prop} {Q : Exit -> Act -> World -> Prop} (hnd : ∀ c, o.op ≠ .defer c) (h : znz P o a W R Rp) (hn : ∀ u W', R u W' -> next (a.put o.dst u) W')
    (hp : ∀ pv W', Rp pv W' -> Q (.panic [{ v := pv, recovered := false }]) a W') : o.wpIn (Fw P ro) m P a W next Q := by
  refine ⟨?_, ?_⟩
  · unfold znz at h
    generalize hx : (execOp a.eval o).run P W = x at h
    cases x with
    | ok nx W' => exact zsf hx
    | halt x W' =>
      cases x <;> first | exact h.elim | (intro f hf; rw [h.1] at hf; cases hf)
  have e : (Fw P ro).round = ro := rfl
  rw [e, Oper.semAt_eq ro a.eval o hnd]
  unfold znz at h
  generalize (execOp a.eval o).run P W = x at h
  cases x with
  | ok nx W' =>
    cases nx <;> simp only [Oper.uponIn] at h |- <;> first
      | exact hn _ _ h
      | (exact h.elim)
      | (refine ⟨λh => (by cases h), ?_⟩
         refine CallsIn.mono (⟨h.1, λcs _ => h.2 cs (zd4 P _)⟩ : CallsIn (Fw P ro) (m - 1) P _ _ _ _) ?_
         intro e w'' hr
         cases e with
         | returned u => exact hn _ _ hr
         | panicked ch => obtain ⟨pv, rfl, hr⟩ := hr; exact hp _ _ hr
         | outgrown => exact hr.elim)
  | halt x W' => cases x <;> first | exact h.elim | exact hp _ _ h.2

theorem zgt {ops : Array Oper} {o : Oper} {b : Bool} (h : Rel r (dom hp) ts a) (hj : zcs ops o ts = some b) : Region.wanted o (yielded ops a.tmps) = b := by
  unfold Region.wanted
  unfold zcs at hj
  cases hg : o.guard with
  | none => simpa [hg] using hj
  | some g =>
    obtain ⟨j, w⟩ := g
    simp only [hg] at hj |-
    unfold yielded
    cases hd : (ops[j]?).bind (·.dst) with
    | none => simpa [hd] using hj
    | some t =>
      simp only [hd] at hj
      simp only [Option.bind_some]
      have ht := h t
      cases hv : ts t with
      | bool c =>
        simp only [hv, Option.some.injEq] at hj
        obtain ⟨h1, _⟩ := ht.resolve_left (by rw [hv]; simp [zcm])
        rw [hv] at h1
        simp only [ren, zay, zak, zan] at h1
        cases hq : a.tmps[t]? with
        | none => simp [hq, undef] at h1
        | some u => simp [hq] at h1; subst h1; simpa using hj
      | tuple vs =>
        simp only [hv, Option.some.injEq] at hj
        obtain ⟨h1, _⟩ := ht.resolve_left (by rw [hv]; simp [zcm])
        rw [hv] at h1
        simp only [ren] at h1
        cases hq : a.tmps[t]? with
        | none => simpa using hj
        | some u => simp [hq] at h1; subst h1; simpa using hj
      | _ => simp [hv] at hj

def zg1 (n : Nat) (ops : List Oper) : Bool := ops.all λo => (match o.dst with | some d => decide (d < n) | none => true) && (match o.op with | .defer _ => false | _ => true)
theorem ze6 {n : Nat} {ops : List Oper} (h : zg1 n ops = true) {o : Oper} (ho : o ∈ ops) : (∀ d, o.dst = some d -> d < n) /\ ∀ c, o.op ≠ .defer c := by
  have := List.all_eq_true.1 h o ho
  simp only [Bool.and_eq_true] at this
  refine ⟨λd hd => ?_, λc hc => ?_⟩
  · have h1 := this.1; simpa [hd] using h1
  · have h2 := this.2; simp [hc] at h2

theorem z5a {ro : Option Nat} {m : Nat} {o : Oper} {e : Eff} {next : Act -> World -> Prop} {Q : Exit -> Act -> World -> Prop} (h : RI C n d r ts hp yc a W) (hd : (∀ d, o.dst = some d -> d < n) /\ ∀ c, o.op ≠ .defer c)
    (ho : OpD P o ts (rst hp e.rs) e) (hws : ∀ k ∈ zaa e.ws, dom hp k /\ 100 <= k) (hns : ∀ k ∈ zaa e.ns, hp k = none /\ 100 <= k)
    (hn : ∀ r' a' W', e.pan = none -> RI C n d r' (zcx ts o.dst e.v) (zbi hp (e.ws ++ e.ns)) yc a' W' -> next a' W')
    (hp' : ∀ pv W', e.pan = some pv -> RI C n d r ts hp yc a W' -> Q (.panic [{ v := pv, recovered := false }]) a W') : o.wpIn (Fw P ro) m P a W next Q := by
  refine zgw hd.2 (ho r (dom hp) a W (λt _ => h.rel t) (λk b hk => h.sat k b (zda hk)) h.inj h.low (λk hk => ?_) (λp hp1 => ?_)) ?_ ?_
  · unfold dom at hk |-
    cases hb : rst hp e.rs k with
    | none => exact absurd hb hk
    | some b => rw [zda hb]; simp
  · have := hns _ (zag.2 ⟨p, hp1, rfl⟩)
    exact ⟨by unfold dom; simp [this.1], this.2⟩
  · rintro u W' ⟨hpn, r', hr, rfl, hv, ht⟩
    exact hn r' _ _ hpn (h.after hd.1 hr hv ht hws hns)
  · rintro pv W' ⟨hpn, hb⟩
    exact hp' pv W' hpn (h.below hb)

def z8f (P : Program) (C : Ctx) (n : Nat) (d : List Deferred) (ro : Option Nat) (OK : OKP) : Prop :=
  ∀ (o : Oper) (e : Eff) (ts : Nat -> Value) (hp : Hp) (yc : Nat) (r : Nat -> Nat) (a : Act) (W : World) (m : Nat) (next : Act -> World -> Prop) (Q : Exit -> Act -> World -> Prop),
    RI C n d r ts hp yc a W -> ((∀ d, o.dst = some d -> d < n) /\ ∀ c, o.op ≠ .defer c) -> OK.ok o ts yc (rst hp e.rs) e -> (∀ k ∈ zaa e.ws, dom hp k /\ 100 <= k) -> (∀ k ∈ zaa e.ns, hp k = none /\ 100 <= k) ->
    (∀ r' a' W', e.pan = none -> RI C n d r' (zcx ts o.dst e.v) (zbi hp (e.ws ++ e.ns)) (if e.yl then yc + 1 else yc) a' W' -> next a' W') ->
    (∀ pv W' yc', e.pan = some pv -> RI C n d r ts hp yc' a W' -> Q (.panic [{ v := pv, recovered := false }]) a W') -> o.wpIn (Fw P ro) m P a W next Q

def zw2 (P : Program) (OK : OKP) : Prop :=
  ∀ (o : Oper) (ts : Nat -> Value) (r : Nat -> Nat) (D : Nat -> Prop) (a : Act) (W : World), Rel r D ts a -> OK.un o ts -> ∀ f, o.about P W a.eval = some f -> (Fs P).fn f

theorem zgu {OK : OKP} {md : Region.Mode} {ops : Array Oper} {base : Nat} {K : St -> Prop} : ∀ (fuel : Nat) (listed : Array Bool) (s : St), zmg OK md ops base K fuel listed s -> ∃ s', K s' /\ (∀ v, s.pn = some v -> s'.pn = some v) /\ (s'.wr = false -> s.wr = false)
  | 0, _, s, h => ⟨s, h.2, λ_ h => h, id⟩
  | fuel + 1, listed, s, h => by
    cases hr : Region.ready md ops listed with
    | nil => exact ⟨s, h.1 hr, λ_ h => h, id⟩
    | cons i l =>
      have h1 := h.2 i (by rw [hr]; simp)
      unfold gOp at h1
      cases ho : ops[i]? with
      | none => simp only [ho] at h1; exact zgu fuel _ s h1
      | some o =>
        simp only [ho] at h1
        cases hw : zcs ops o s.ts with
        | none => rw [hw] at h1; exact h1.elim
        | some b =>
          rw [hw] at h1
          cases b with
          | true =>
            obtain ⟨e, _, _, h4⟩ := h1
            obtain ⟨s', k, h5, h6⟩ := zgu fuel _ _ h4
            refine ⟨s', k, λv hv => h5 v (by simp [St.after, hv]), λhs => ?_⟩
            have := h6 hs; simp only [St.after, Bool.or_eq_false_iff] at this; exact this.1
          | false =>
            obtain ⟨s', k, h5, h6⟩ := zgu fuel _ _ h1.2
            exact ⟨s', k, h5, h6⟩

theorem zd1 {ts : Nat -> Value} {dst : Option Tmp} {v : Value} {t : Nat} (h : dst ≠ some t) : zcx ts dst v t = ts t := by
  cases dst with
  | none => rfl
  | some d => exact zab _ _ (λe => h (by rw [e]))
theorem zgv {OK : OKP} {ro : Option Nat} {m : Nat} {md : Region.Mode} {ops : Array Oper} {base : Nat} {K : St -> Prop} {Q : Exit -> Act -> World -> Prop} {hp0 : Hp} {ts0 : Nat -> Value} (hst : z8f P C n d ro OK) (hun : zw2 P OK) (hdst : ∀ o ∈ ops, (∀ d, o.dst = some d -> d < n) /\ ∀ c, o.op ≠ .defer c)
    (hK : ∀ s, K s -> s.pn = none -> ∀ r' a' W', RI C n d r' s.ts s.hp s.yc a' W' -> Q .normal a' W')
    (hP : ∀ s' pv, K s' -> s'.pn = some pv -> s'.wr = false -> ∀ r a W ts hp yc, (∀ k b, hp0 k = some b -> hp k = some b) -> (∀ t, (∀ o ∈ ops, o.dst ≠ some t) -> ts t = ts0 t) -> RI C n d r ts hp yc a W -> Q (.panic [{ v := pv, recovered := false }]) a W) (hwr : ∀ s', K s' -> s'.pn ≠ none -> s'.wr = false) :
    ∀ (fuel : Nat) (listed : Array Bool) (s : St) (r : Nat -> Nat) (a : Act) (W : World), RI C n d r s.ts s.hp s.yc a W -> s.pn = none -> (s.wr = false -> ∀ k b, hp0 k = some b -> s.hp k = some b) -> (∀ t, (∀ o ∈ ops, o.dst ≠ some t) -> s.ts t = ts0 t) -> zmg OK md ops base K fuel listed s -> wpAnyIn (Fw P ro) m P md ops Q fuel listed a W
  | 0, _, s, r, a, W, hR, hpn, hs, hts, h => ⟨h.1, hK s h.2 hpn r a W hR⟩
  | fuel + 1, listed, s, r, a, W, hR, hpn, hs, hts, h => by
    refine ⟨λh0 => hK s (h.1 h0) hpn r a W hR, λi hi => ?_⟩
    have h1 := h.2 i hi
    unfold wpOpIn
    unfold gOp at h1
    cases ho : ops[i]? with
    | none => simp only [ho] at h1; exact zgv hst hun hdst hK hP hwr fuel _ s r a W hR hpn hs hts h1
    | some o =>
      simp only [ho] at h1
      have hd := hdst o (Array.mem_of_getElem? ho)
      cases hw : zcs ops o s.ts with
      | none => rw [hw] at h1; exact h1.elim
      | some b =>
        rw [hw] at h1
        simp only [zgt hR.rel hw]
        cases b with
        | true =>
          obtain ⟨e, h2, h3, h4⟩ := h1
          simp only [if_true]
          have hs' : (s.after i o e).wr = false -> ∀ k b, hp0 k = some b -> (s.after i o e).hp k = some b := λhw' k b hk => by
            simp only [St.after, Bool.or_eq_false_iff] at hw'
            have e0 : e.ws = [] := by have := hw'.2; simpa using this
            have hk' := hs hw'.1 k b hk
            show zbi s.hp (e.ws ++ e.ns) k = some b
            rw [e0, List.nil_append, za6 (λhm => by have := h3.nodup k hm; rw [hk'] at this; cases this)]
            exact hk'
          refine hst o e s.ts s.hp s.yc r a W m _ _ hR hd h2 (λk hk => (h3.wsrs k hk).2) (λk hk => ⟨h3.nodup k hk, (h3.ids k hk).2.2⟩) ?_ ?_
          · intro r' a' W' hpe hR'
            exact zgv hst hun hdst hK hP hwr fuel _ (s.after i o e) r' a' W' hR' (by simp [St.after, hpn, hpe]) hs' (λt ht => (zd1 (ht o (Array.mem_of_getElem? ho))).trans (hts t ht)) h4
          · intro pv W' yc' hpe hR'
            obtain ⟨s', k, h5, h6⟩ := zgu fuel _ _ h4
            have hp5 := h5 pv (by simp [St.after, hpn, hpe])
            have hw5 := hwr s' k (by rw [hp5]; simp)
            have hw6 := h6 hw5
            simp only [St.after, Bool.or_eq_false_iff] at hw6
            exact hP s' pv k hp5 hw5 r a W' s.ts s.hp yc' (hs hw6.1) hts hR'
        | false =>
          simp only [Bool.false_eq_true, if_false]
          exact ⟨hun o s.ts r _ a W hR.rel h1.1, zgv hst hun hdst hK hP hwr fuel _ (s.pass o) r _ W (hR.put_undef hd.1) hpn hs (λt ht => (zd1 (ht o (Array.mem_of_getElem? ho))).trans (hts t ht)) h1.2⟩

theorem zru {OK : OKP} {ro : Option Nat} {m : Nat} {id : Nat} {l : List Oper} {base : Nat} {K : St -> Prop} {Q : Exit -> Act -> World -> Prop} (hst : z8f P C n d ro OK) (hun : zw2 P OK) (hm : P.follows .mixedOrders = true)
    (hB : Region.lexFrom .any l.toArray l.length 0 (Array.replicate l.length false) = true) (hdst : zg1 n l = true) (h : RI C n d r ts hp yc a W)
    (hw : zp7 OK .any l.toArray base K 0 l ⟨ts, hp, λ_ => ([], []), yc, false, none, false⟩) (hK : ∀ s, K s -> s.pn = none -> ∀ r' a' W', RI C n d r' s.ts s.hp s.yc a' W' -> Q .normal a' W')
    (hP : ∀ s' pv, K s' -> s'.pn = some pv -> s'.wr = false -> ∀ r a W ts' hp' yc, (∀ k b, hp k = some b -> hp' k = some b) -> (∀ t, (∀ o ∈ l, o.dst ≠ some t) -> ts' t = ts t) -> RI C n d r ts' hp' yc a W -> Q (.panic [{ v := pv, recovered := false }]) a W) (hwr : ∀ s', K s' -> s'.pn ≠ none -> s'.wr = false) : (Code.region id l.toArray true).wpIn (Fw P ro) m P Q a W := by
  refine wpIn_region_any hm ?_
  have := zmh (md := .any) (ops := l.toArray) l 0 (Array.replicate l.length false) ⟨ts, hp, λ_ => ([], []), yc, false, none, false⟩ (λk o _ hl => by rw [Array.getD_eq_getD_getElem?, Array.getElem?_replicate] at hl; split at hl <;> simp at hl) (by simp) hB hw
  have h2 := zgv (C := C) (n := n) (d := d) (Q := Q) (m := m) (hp0 := hp) hst hun (λo ho => ze6 hdst (by simpa using ho)) hK (λs' pv h1 h2 h3 r a W ts' hp' yc h4 h5 h6 => hP s' pv h1 h2 h3 r a W ts' hp' yc h4 (λt ht => h5 t (λo ho => ht o (by simpa using ho))) h6) hwr _ _ _ r a _ h.drew rfl (λ_ _ _ h => h) (λ_ _ => rfl) this
  simpa using h2

end

def zhd:Value->Bool
 | .pointer (some _)=>false
 | .slice (some _) _ _=>false
 | .map (some _)=>false
 | _=>true
def zbf:Value->Bool
 | .func _ first cap=>first.all zhd&&cap.all zhd
 | .iface _ v=>zhd v
 | v=>zhd v
def zg2:Value->Bool
 | .agg cs=>cs.all zbf
 | v=>zbf v
def za0:Value->Bool
 | .tuple vs=>vs.all zg2
 | v=>zg2 v

section
variable {r:Nat->Nat} {D:Nat->Prop}
theorem zbs {f:Value->Value} {xs:Array Value} (h:∀ x∈xs,f x=x):xs.map f=xs:=by
 have:xs.map f=xs.map id:=Array.map_congr_left λx hx=>by simpa using h x hx
 rw [this];simp
theorem zhs {v:Value} (h:zhd v=true):zan r v=v:=by unfold zhd at h;split at h<;>simp_all [zan]
theorem zhr {v:Value} (h:zhd v=true):zaj D v:=by unfold zhd at h;split at h<;>simp_all [zaj]
theorem zb9 {v:Value} (h:zbf v=true):zak r v=v:=by
 unfold zbf at h
 split at h
 ·simp only [Bool.and_eq_true] at h
  simp only [zak]
  rw [zbs (λx hx=>zhs (Array.all_eq_true_iff_forall_mem.1 h.1 x hx)),zbs (λx hx=>zhs (Array.all_eq_true_iff_forall_mem.1 h.2 x hx))]
 ·simp only [zak];rw [zhs h]
 ·rename_i h1 h2
  unfold zak
  split
  ·exact absurd rfl (h1 _ _ _)
  ·exact absurd rfl (h2 _ _)
  ·exact zhs h
theorem zdl {v:Value} (h:zbf v=true):zah D v:=by
 unfold zbf at h
 split at h
 ·simp only [Bool.and_eq_true] at h
  exact ⟨λx hx=>zhr (Array.all_eq_true_iff_forall_mem.1 h.1 x hx),λx hx=>zhr (Array.all_eq_true_iff_forall_mem.1 h.2 x hx)⟩
 ·exact zhr (v:=_) h
 ·rename_i h1 h2
  unfold zah
  split
  ·exact absurd rfl (h1 _ _ _)
  ·exact absurd rfl (h2 _ _)
  ·exact zhr h
theorem Blk.obj_flat {r:Nat->Nat} {b:Blk} (h:∀ x∈b.c,zbf x=true):b.obj r=b.obj0:=by
 obtain ⟨c,T⟩:=b
 cases T with
 | ty t=>unfold Blk.obj Blk.obj0;simp only;rw [zbs (λx hx=>zb9 (h x hx))]
 | raw t fr=>rfl
 | mp=>unfold Blk.obj Blk.obj0;simp only;rw [zbs (λx hx=>zb9 (h x hx))]
theorem Blk.flat_ids {b:Blk} (h:∀ x∈b.c,zbf x=true):b.ids D:=Blk.ids_of λx hx=>zdl (h x hx)
theorem zoz {v:Value} (h:zg2 v=true):zay r v=v:=by
 unfold zg2 at h
 split at h
 ·simp only [zay];rw [zbs (λx hx=>zb9 (Array.all_eq_true_iff_forall_mem.1 h x hx))]
 ·rename_i h1
  unfold zay
  split
  ·exact absurd rfl (h1 _)
  ·exact zb9 h
theorem zoy {v:Value} (h:zg2 v=true):zax D v:=by
 unfold zg2 at h
 split at h
 ·exact λx hx=>zdl (Array.all_eq_true_iff_forall_mem.1 h x hx)
 ·rename_i h1
  unfold zax
  split
  ·exact absurd rfl (h1 _)
  ·exact zdl h
theorem zau {v:Value} (h:za0 v=true):ren r v=v:=by
 unfold za0 at h
 split at h
 ·simp only [ren];rw [zbs (λx hx=>zoz (Array.all_eq_true_iff_forall_mem.1 h x hx))]
 ·rename_i h1
  unfold ren
  split
  ·exact absurd rfl (h1 _)
  ·exact zoz h
theorem zai {v:Value} (h:za0 v=true):zap D v:=by
 unfold za0 at h
 split at h
 ·exact λx hx=>zoy (Array.all_eq_true_iff_forall_mem.1 h x hx)
 ·rename_i h1
  unfold zap
  split
  ·exact absurd rfl (h1 _)
  ·exact zoy h
end

def zkv:Value->Bool
 | .agg _=>false
 | .tuple _=>false
 | _=>true
theorem zto {r:Nat->Nat} {v:Value} (h:zkv v=true):ren r v=zak r v:=by cases v<;>simp_all [zkv,ren,zay]
theorem z3j {D:Nat->Prop} {v:Value} (h:zkv v=true):zap D v↔zah D v:=by cases v<;>simp_all [zkv,zap,zax]
theorem zz3 {r:Nat->Nat} {v:Value} (h:zkv v=true):zkv (zak r v)=true:=by
 cases v with
 | pointer p=>cases p<;>rfl
 | slice p _ _=>cases p<;>rfl
 | map p=>cases p<;>rfl
 | agg _=>simp [zkv] at h
 | tuple _=>simp [zkv] at h
 | _=>rfl

def gev (ts:Nat->Value):Operand->Value
 | .tmp t=>ts t
 | .const v=>v
 | .global g=>.pointer (some ⟨g,0,none⟩)
 | .func f=>.func (.func f) #[] #[]
def nj:Value->Prop
 | .complex _ _ _=>False
 | _=>True
theorem jat {v:Value} (h:nj v):v≠zcm:=by intro e;rw [e] at h;exact h
def okX (ts:Nat->Value) (hp:Hp):Operand->Prop
 | .tmp t=>nj (ts t)
 | .const v=>za0 v=true
 | .global g=>g<100/\(hp g).isSome=true
 | .func _=>True

section
variable {P:Program} {o:Oper} {r:Nat->Nat} {D:Nat->Prop} {ts:Nat->Value} {a:Act} {hp:Hp}
theorem ev {x:Operand} (h:zqi o r D ts a) (hx:x∈o.op.operands) (hk:okX ts hp x) (hlow:∀ k,k<100->D k->r k=k) (hD:∀ k,k<100->dom hp k->D k) :
  a.eval x=ren r (gev ts x)/\zap D (gev ts x):=by
 cases x with
 | tmp t=>exact (h t hx).resolve_left (jat hk)
 | const v=>exact ⟨(zau hk).symm,zai hk⟩
 | global g =>
  obtain ⟨h1,h2⟩:=hk
  have hd:D g:=hD g h1 (by unfold dom;intro e;rw [e] at h2;simp at h2)
  exact ⟨by simp [Act.eval,gev,ren,zay,zak,zan,hlow g h1 hd],by simpa [gev,zap,zax,zah,zaj] using hd⟩
 | func f=>exact ⟨by simp [Act.eval,gev,ren,zay,zak],by simp [gev,zap,zax,zah]⟩

def zfm (P:Program) (T:TypeId):Option Bool :=
 match P.underlying T with
 | some (.struct _)=>some true
 | some (.array _ _)=>some true
 | some _=>some false
 | none=>none
def zaz (P:Program) (T:TypeId):Option Nat:=(P.info? T).map (·.size)
def zbm (P:Program) (T:TypeId):Option Value:=(P.info? T).bind (·.zero)

theorem zfb {T:TypeId} {b:Bool} (h:zfm P T=some b) (W:World):(isAgg T).run P W=.ok b W:=by
 unfold zfm at h
 unfold isAgg
 cases hu:P.underlying T with
 | none=>simp [hu] at h
 | some dd =>
  rw [Sem.run_bind,run_underlying hu W]
  cases dd<;>simp_all
theorem zb2 {T:TypeId} {m:Nat} (h:zaz P T=some m) (W:World):(sizeOf T).run P W=.ok m W:=by
 unfold zaz at h
 cases hi:P.info? T with
 | none=>simp [hi] at h
 | some i=>simp [hi] at h;simp [sizeOf,typeInfo,hi,h]
theorem zfk {T:TypeId} {z:Value} (h:zbm P T=some z) (W:World):(zeroValue T).run P W=.ok z W:=by
 unfold zbm at h
 cases hi:P.info? T with
 | none=>simp [hi] at h
 | some i=>simp [hi] at h;simp [zeroValue,typeInfo,hi,h]

def zb5 (P:Program) (T:TypeId) (c:Array Value) (off:Nat):Option Value :=
 match zfm P T with
 | some true=>match zaz P T with
  | some m=>if off+m<=c.size then some (.agg (c.extract off (off+m))) else none
  | none=>none
 | some false=>match c[off]? with
  | some v=>if zkv v then some v else none
  | none=>none
 | none=>none

theorem zgb {T:TypeId} {c:Array Value} {off:Nat} {v:Value} (h:zb5 P T c off=some v) {W:World} {b:Nat} {T':TypeId} {fr:Nat×Nat} (hb:W.heap[b]? = some (.cells (c.map (zak r)) T' fr)) :
  (loadVar T ⟨b,off,none⟩).run P W=.ok (ren r v) W:=by
 unfold zb5 at h
 cases ha:zfm P T with
 | none=>simp [ha] at h
 | some bb =>
  cases bb with
  | true =>
   simp only [ha] at h
   cases hs:zaz P T with
   | none=>simp [hs] at h
   | some m =>
    simp only [hs] at h
    split at h
    ·rename_i hle
     cases h
     have hl:(loadCells ⟨b,off,none⟩ m).run P W=.ok ((c.extract off (off+m)).map (zak r)) W:=by
      have:=run_loadCells_list (P:=P) W ⟨b,off,none⟩ ((c.extract off (off+m)).map (zak r)).toList (λj v hv=>by
       rw [Addr.add_mid,cell_of_row W b (off+j) _ _ _ hb]
       simp only [Array.getElem?_toList,Array.getElem?_map,Array.getElem?_extract] at hv
       rw [Array.getElem?_map]
       split at hv
       ·exact hv
       ·simp at hv)
      have hlen:((c.extract off (off+m)).map (zak r)).toList.length=m:=by simp;omega
      rw [hlen] at this
      rw [this,Array.toArray_toList]
     simp [loadVar,Sem.run_bind,zfb ha,zb2 hs,hl,ren,zay]
    ·simp at h
  | false =>
   simp only [ha] at h
   cases hc:c[off]? with
   | none=>simp [hc] at h
   | some u =>
    simp only [hc] at h
    split at h
    ·rename_i hsc
     obtain rfl:u=v:=by simpa using h
     have hcell:W.cell? ⟨b,off,none⟩=some (zak r u):=by rw [cell_of_row W b off _ _ _ hb];simp [hc]
     simp [loadVar,Sem.run_bind,zfb ha,load,Sem.run,hcell,zto hsc]
    ·simp at h

theorem zkk {T:TypeId} {c:Array Value} {off:Nat} {v:Value} (h:zb5 P T c off=some v) (hc:∀ x∈c,zah D x):zap D v:=by
 unfold zb5 at h
 split at h
 ·split at h
  ·split at h
   ·cases h
    intro x hx
    have:=Array.mem_extract_iff_getElem.1 hx
    obtain ⟨k,hk,e⟩:=this
    exact e▸hc _ (Array.getElem_mem _)
   ·simp at h
  ·simp at h
 ·split at h
  ·rename_i u hu
   split at h
   ·rename_i hs
    cases h
    exact (z3j hs).2 (hc _ (Array.mem_of_getElem? hu))
   ·simp at h
  ·simp at h
 ·simp at h

def zc6 (P:Program) (T:TypeId) (b:Blk) (off:Nat):Option Value:=match b.T with
 | .ty _=>zb5 P T b.c off
 | .raw _ _=>match zb5 P T b.c off with
  | some v=>if za0 v then some v else none
  | none=>none
 | .mp=>none
theorem zkr (v:Value):zak (λk=>k) v=v:=by
 have h0:∀ v,zan (λk=>k) v=v:=λv=>by unfold zan;split<;>rfl
 unfold zak
 split
 ·have:(zan λk=>k)=id:=funext h0
  rw [this];simp
 ·rw [h0]
 ·exact h0 _
theorem zh4 {T:TypeId} {k off:Nat} {b:Blk} {v:Value} (h:zc6 P T b off=some v) {W:World} (hb:W.heap[k]? = some (b.obj r)):(loadVar T ⟨k,off,none⟩).run P W=.ok (ren r v) W:=by
 obtain ⟨c,t⟩:=b
 cases t with
 | ty t=>exact zgb h hb
 | raw t fr =>
  simp only [zc6] at h
  split at h
  ·rename_i u hu
   split at h
   ·rename_i hf
    cases h
    have e:c.map (zak λk=>k)=c:=zbs λx _=>zkr x
    have:=zgb (r:=λk=>k) hu (W:=W) (b:=k) (T':=t) (fr:=fr) (by rw [e];exact hb)
    rw [this,zau hf,zau hf]
   ·cases h
  ·cases h
 | mp=>simp [zc6] at h
theorem zyu {T:TypeId} {b:Blk} {off:Nat} {v:Value} (h:zc6 P T b off=some v) (hb:b.ids D):zap D v:=by
 obtain ⟨c,t⟩:=b
 cases t with
 | ty t=>exact zkk h hb
 | raw t fr =>
  simp only [zc6] at h
  split at h
  ·split at h
   ·rename_i hf;cases h;exact zai hf
   ·cases h
  ·cases h
 | mp=>simp [zc6] at h
def zcr (c:Array Value) (o:Nat):List Value->Array Value
 | []=>c
 | v::vs=>zcr (c.setIfInBounds o v) (o+1) vs
theorem zwc (f:Value->Value) (vs:List Value):∀ (c:Array Value) (o:Nat),(zcr c o vs).map f=zcr (c.map f) o (vs.map f):=by
 induction vs with
 | nil=>intro c o;rfl
 | cons v vs ih=>intro c o;simp only [zcr,List.map_cons];rw [ih,Array.map_setIfInBounds]
theorem zwd {Q:Value->Prop} (vs:List Value) (hv:∀ x∈vs,Q x):∀ (c:Array Value) (o:Nat),(∀ x∈c,Q x)->∀ x∈zcr c o vs,Q x:=by
 induction vs with
 | nil=>intro c o hc;exact hc
 | cons v vs ih =>
  intro c o hc
  refine ih (λx hx=>hv x (List.mem_cons_of_mem _ hx)) _ _ (λx hx=>?_)
  rcases Array.mem_or_eq_of_mem_setIfInBounds hx with h|h
  ·exact hc x h
  ·exact h▸hv v (by simp)

theorem zld {x:Addr} {v u:Value} (hv:zkv v=true) {W:World} (hu:W.cell? x=some u) (hf:W.frozen? x=false):(store x v).run P W=.ok () (W.setCell x v):=by
 unfold store
 cases v with
 | agg _=>simp [zkv] at hv
 | tuple _=>simp [zkv] at hv
 | _=>simp [Sem.run,hu,hf]

theorem zh6 {b:Nat} {T:TypeId} (vs:List Value) (h1:∀ v∈vs,zkv v=true):∀ (c:Array Value) (o i:Nat) (W:World),W.heap[b]? = some (.cells c T (0,0))->o+i+vs.length<=c.size ->
  (storeCells ⟨b,o,none⟩ vs i).run P W=.ok () (W.putObj b (.cells (zcr c (o+i) vs) T (0,0))):=by
 induction vs with
 | nil =>
  intro c o i W hb _
  obtain ⟨hlt,he⟩:=Array.getElem?_eq_some_iff.1 hb
  have:W.putObj b (.cells c T (0,0))=W:=by
   unfold World.putObj
   have:W.heap.setIfInBounds b (.cells c T (0,0))=W.heap:=by
    apply Array.ext_getElem?
    intro k
    by_cases e:b=k
    ·subst e;simp [he,hlt]
    ·simp [Array.getElem?_setIfInBounds_ne e]
   rw [this]
  simp [storeCells,zcr,this]
 | cons v vs ih =>
  intro c o i W hb hle
  simp only [List.length_cons] at hle
  obtain ⟨hlt,he⟩:=Array.getElem?_eq_some_iff.1 hb
  have hcell:(W.cell? ⟨b,o+i,none⟩).isSome=true:=by
   rw [cell_of_row W b (o+i) _ _ _ hb];simp;omega
  obtain ⟨u,hu⟩:=Option.isSome_iff_exists.1 hcell
  have hfr:W.frozen? ⟨b,o+i,none⟩=false:=by simp [World.frozen?,hb]
  have hv:=h1 v (by simp)
  have hset:W.setCell ⟨b,o+i,none⟩ v=W.putObj b (.cells (c.setIfInBounds (o+i) v) T (0,0)):=by
   unfold World.setCell World.putObj
   congr 1
   apply Array.ext_getElem?
   intro k
   by_cases e:b=k
   ·subst e;rw [Array.getElem?_modify,if_pos rfl,hb];simp [hlt]
   ·simp [Array.getElem?_modify,e,Array.getElem?_setIfInBounds_ne e]
  have hst:(store ⟨b,o+i,none⟩ v).run P W=.ok () (W.putObj b (.cells (c.setIfInBounds (o+i) v) T (0,0))):=by
   rw [<-hset]
   exact zld hv hu hfr
  have hb':(W.putObj b (.cells (c.setIfInBounds (o+i) v) T (0,0))).heap[b]? = some (.cells (c.setIfInBounds (o+i) v) T (0,0)):=World.putObj_heap_same hlt
  have:=ih (λx hx=>h1 x (List.mem_cons_of_mem _ hx)) (c.setIfInBounds (o+i) v) o (i+1) _ hb' (by simp;omega)
  simp only [storeCells,Sem.run_bind,Addr.add_mid,hst,Result.andThen_ok,this]
  simp only [zcr,World.putObj]
  congr 2
  ·simp [Nat.add_assoc]

def cellsOf (v:Value):Array Value:=v.cells
theorem zfv {v:Value} (h:∀ vs,v≠.tuple vs):(ren r v).cells=v.cells.map (zak r):=by
 cases v with
 | agg cs=>simp [ren,zay,Value.cells]
 | tuple vs=>exact absurd rfl (h vs)
 | pointer p=>cases p<;>simp [ren,zay,zak,zan,Value.cells]
 | slice p _ _=>cases p<;>simp [ren,zay,zak,zan,Value.cells]
 | map p=>cases p<;>simp [ren,zay,zak,zan,Value.cells]
 | _=>simp [ren,zay,zak,zan,Value.cells]
theorem zfu {v:Value} (h:∀ vs,v≠.tuple vs) (hv:zap D v):∀ x∈v.cells,zah D x:=by
 cases v with
 | agg cs=>exact hv
 | tuple vs=>exact absurd rfl (h vs)
 | _=>intro x hx;simp [Value.cells] at hx;subst hx;exact hv

def za4:Value->Bool
 | .tuple _=>false
 | .agg cs=>cs.all zkv
 | .complex _ _ _=>false
 | _=>true
theorem zce {v:Value} (h:za4 v=true):∀ vs,v≠.tuple vs:=by intro vs e;rw [e] at h;simp [za4] at h
theorem zpl {v:Value} (h:za4 v=true):∀ x∈v.cells,zkv x=true:=by
 cases v with
 | agg cs=>exact λx hx=>Array.all_eq_true_iff_forall_mem.1 h x hx
 | tuple vs=>simp [za4] at h
 | _=>intro x hx;simp [Value.cells] at hx;subst hx;simp_all [zkv,za4]

theorem zji {T:TypeId} {c:Array Value} {off:Nat} {v:Value} (hv:za4 v=true) (hs:zaz P T=some v.cells.size) (hle:off+v.cells.size<=c.size) {W:World} {b:Nat} {T':TypeId}
  (hb:W.heap[b]? = some (.cells (c.map (zak r)) T' (0,0))) :
  (storeVar T ⟨b,off,none⟩ (ren r v)).run P W=.ok () (W.putObj b (.cells ((zcr c off v.cells.toList).map (zak r)) T' (0,0))):=by
 have hc:=zfv (r:=r) (zce hv)
 have:=zh6 (P:=P) (T:=T') (b:=b) (v.cells.map (zak r)).toList (λx hx=>by
  simp only [Array.toList_map,List.mem_map] at hx
  obtain ⟨y,hy,rfl⟩:=hx
  exact zz3 (zpl hv y (by simpa using hy))) (c.map (zak r)) off 0 W hb (by simpa using hle)
 simp only [Nat.add_zero] at this
 rw [zwc]
 simp only [Array.toList_map] at this
 simp [storeVar,Sem.run_bind,zb2 hs,hc,this]
end

def zdy (op:BinOp) (k:IntKind) (a b:Int):Int :=
 match op with
 | .and=>k.wrap (BitVec.ofInt k.bits a &&& BitVec.ofInt k.bits b).toNat
 | .or=>k.wrap (BitVec.ofInt k.bits a ||| BitVec.ofInt k.bits b).toNat
 | .xor=>k.wrap (BitVec.ofInt k.bits a ^^^ BitVec.ofInt k.bits b).toNat
 | _=>k.wrap (BitVec.ofInt k.bits a &&& ~~~ BitVec.ofInt k.bits b).toNat

def zm6 (op:BinOp) (k:IntKind) (a:Int) (k':IntKind) (b:Int):Option Value :=
 match op with
 | .shl=>if 0<=b then some (.int k (k.wrap (a*2^min b.toNat k.bits))) else none
 | .shr=>if 0<=b then some (.int k (a.fdiv (2^min b.toNat k.bits))) else none
 | .add=>if k=k' then some (.int k (k.wrap (a+b))) else none
 | .sub=>if k=k' then some (.int k (k.wrap (a - b))) else none
 | .mul=>if k=k' then some (.int k (k.wrap (a*b))) else none
 | .quo=>if k=k' then if b=0 then none else some (.int k (k.wrap (a.tdiv b))) else none
 | .rem=>if k=k' then if b=0 then none else some (.int k (a.tmod b)) else none
 | .and=>if k=k' then some (.int k (zdy .and k a b)) else none
 | .or=>if k=k' then some (.int k (zdy .or k a b)) else none
 | .xor=>if k=k' then some (.int k (zdy .xor k a b)) else none
 | .andNot=>if k=k' then some (.int k (zdy .andNot k a b)) else none
 | .eql=>if k=k' then some (.bool (a==b)) else none
 | .neq=>if k=k' then some (.bool (a != b)) else none
 | .lss=>if k=k' then some (.bool (a<b)) else none
 | .leq=>if k=k' then some (.bool (a<=b)) else none
 | .gtr=>if k=k' then some (.bool (b<a)) else none
 | .geq=>if k=k' then some (.bool (b<=a)) else none

def zwq:List Value->List Value->Option Bool
 | [],[]=>some true
 | .int k a::xs,.int k' b::ys=>if k=k' then match zwq xs ys with
  | some r=>some (a==b&&r)
  | none=>none
  else none
 | _,_=>none

def zmt (P:Program) (T:TypeId):Bool:=match P.underlying T with|some .bool=>true|_=>false
def zwp (P:Program) (T:TypeId):Option Nat :=
 match P.underlying T with
 | some (.array n e)=>match P.underlying e with
  | some (.int _)=>match zaz P e with
   | some 1=>if P.eqGuardType P.depth T then none else some n
   | _=>none
  | _=>none
 | _=>none

def zwo (P:Program) (T:TypeId) (xs ys:Array Value):Option Bool :=
 match zwp P T with
 | some n=>if xs.size=n/\ys.size=n then zwq xs.toList ys.toList else none
 | none=>none

def z1g (P:Program) (T:TypeId):Option Nat :=
 match zwp P T,zaz P T,zfm P T with
 | some n,some m,some true=>if m=n then some n else none
 | _,_,_=>none
def z3o (P:Program) (T:TypeId):Bool :=
 match P.underlying T,zfm P T with
 | some (.int _),some false=>true
 | _,_=>false
def jfr (P:Program) (T off:Nat) (xs ys:Array Value):Option Bool :=
 match z1g P T with
 | some n=>if off+n<=xs.size/\off+n<=ys.size then zwo P T (xs.extract off (off+n)) (ys.extract off (off+n)) else none
 | none=>if z3o P T=true then match xs[off]?,ys[off]? with
   | some (.int k a),some (.int k' b)=>if k=k' then some (a==b) else none
   | _,_=>none
  else none
def z1h (P:Program) (xs ys:Array Value):List (TypeId×Nat)->Option Bool
 | []=>some true
 | f::fs=>match jfr P f.1 f.2 xs ys,z1h P xs ys fs with
  | some a,some b=>some (a&&b)
  | _,_=>none
def zgd (P:Program) (T:TypeId):Option (List (TypeId×Nat)) :=
 match P.underlying T with
 | some (.struct fs) => if P.stoodInHeld T || P.eqGuardType P.depth T || fs.toList.any (λf => f.name == "_") then none else some (fs.toList.map λf => (f.type, f.offset))
 | _=>none
def snF (P:Program) (T:TypeId):Option (List (TypeId×Nat)×Nat) :=
 match zgd P T,zaz P T,zfm P T with
 | some l,some m,some true=>some (l,m)
 | _,_,_=>none
def jfu (P:Program) (o:Option (List (TypeId×Nat)×Nat)) (off:Nat) (xs ys:Array Value):Option Bool :=
 match o with
 | some (l,m)=>if off+m<=xs.size/\off+m<=ys.size then z1h P (xs.extract off (off+m)) (ys.extract off (off+m)) l else none
 | none=>none
def jft (P:Program) (T off:Nat) (xs ys:Array Value):Option Bool :=
 match z1g P T with
 | some n=>if off+n<=xs.size/\off+n<=ys.size then zwo P T (xs.extract off (off+n)) (ys.extract off (off+n)) else none
 | none=>if z3o P T=true then match xs[off]?,ys[off]? with
   | some (.int k a),some (.int k' b)=>if k=k' then some (a==b) else none
   | _,_=>none
  else jfu P (snF P T) off xs ys
def z24 (P:Program) (xs ys:Array Value):List (TypeId×Nat)->Option Bool
 | []=>some true
 | f::fs=>match jft P f.1 f.2 xs ys,z24 P xs ys fs with
  | some a,some b=>some (a&&b)
  | _,_=>none
def zuh (P:Program) (T:TypeId) (n:Option Nat) (st:Option (List (TypeId×Nat))) (xs ys:Array Value):Option Bool :=
 match n with
 | some _=>zwo P T xs ys
 | none=>match st with
  | some l=>if (xs.all zbf&&ys.all zbf)=true then z24 P xs ys l else none
  | none=>none
def z16 (P:Program) (T:TypeId) (xs ys:Array Value):Option Bool:=zuh P T (zwp P T) (zgd P T) xs ys
def ztr (P:Program) (T:TypeId):Bool:=match P.underlying T with|some (.slice _)=>true|_=>false
def zoe (P:Program) (op:BinOp) (T:TypeId) (x y:Value):Option Value :=
 match x,y with
 | .int k a,.int k' b=>zm6 op k a k' b
 | .bool a,.bool b=>match op with
  | .eql=>if zmt P T then some (.bool (a==b)) else none
  | .neq=>if zmt P T then some (.bool (a != b)) else none
  | _=>none
 | .agg xs,.agg ys=>match op with
  | .eql=>match z16 P T xs ys with
   | some r=>some (.bool r)
   | none=>none
  | .neq=>match z16 P T xs ys with
   | some r=>some (.bool (!r))
   | none=>none
  | _=>none
 | .slice p _ _,.slice none 0 0=>match op with
  | .eql=>if ztr P T then some (.bool p.isNone) else none
  | .neq=>if ztr P T then some (.bool (!p.isNone)) else none
  | _=>none
 | _,_=>none

def un1 (op:UnOp) (x:Value):Option Value :=
 match op,x with
 | .neg,.int k a=>some (.int k (k.wrap (0 - a)))
 | .xor,.int k a=>some (.int k (zdy .xor k (if k.signed then -1 else k.max) a))
 | .not,.bool b=>some (.bool !b)
 | _,_=>none

def zmy (P:Program) (src dst:TypeId) (x:Value):Option Value :=
 match P.underlying src,P.underlying dst,x with
 | some _,some (.int k),.int _ n=>some (.int k (k.wrap n))
 | _,_,_=>none

section
variable {P:Program}

theorem zvg {op:BinOp} {T:TypeId} {k k':IntKind} {a b:Int} {v:Value} (h:zm6 op k a k' b=some v) (W:World) :
  (binOp op T (.int k a) (.int k' b)).run P W=.ok v W/\za0 v=true:=by
 cases op<;>simp only [zm6] at h
 case shl =>
  split at h
  ·cases h;rename_i hb
   refine ⟨?_,rfl⟩
   have:¬b<0:=by omega
   simp [binOp,Op.shift,this]
  ·cases h
 case shr =>
  split at h
  ·cases h;rename_i hb
   refine ⟨?_,rfl⟩
   have:¬b<0:=by omega
   simp [binOp,Op.shift,this]
  ·cases h
 case quo =>
  split at h
  ·split at h
   ·cases h
   ·cases h;rename_i hk hb;subst hk
    exact ⟨by simp [binOp,Op.intDiv,hb],rfl⟩
  ·cases h
 case rem =>
  split at h
  ·split at h
   ·cases h
   ·cases h;rename_i hk hb;subst hk
    exact ⟨by simp [binOp,Op.intDiv,hb],rfl⟩
  ·cases h
 all_goals
  split at h
  ·cases h;rename_i hk;subst hk
   exact ⟨by simp [binOp,Op.intArith,Op.intBits,Op.intCmp,zdy],rfl⟩
  ·cases h

theorem zpt {e:TypeId} {kk:IntKind} (hu:P.underlying e=some (.int kk)) {cs:Array Value} {i:Nat} {v:Value} (h:cs[i]? = some v) (W:World):(part e cs (i*1)).run P W=.ok v W:=by
 have ha:(isAgg e).run P W=.ok false W:=zfb (by simp [zfm,hu]) W
 simp [part,ha,h]

theorem zga {d:Nat} {e:TypeId} {kk:IntKind} (hu:P.underlying e=some (.int kk)) (W:World):∀ (m j:Nat) (xs ys:Array Value) (r:Bool),j+m=xs.size->j+m=ys.size->zwq (xs.toList.drop j) (ys.toList.drop j)=some r ->
  (Op.eqItems (d+1) e 1 xs ys (List.range' j m)).run P W=.ok r W
 | 0,j,xs,ys,r,hx,hy,h=>by
  rw [List.drop_eq_nil_of_le (by simp;omega),List.drop_eq_nil_of_le (by simp;omega)] at h
  simp only [zwq,Option.some.injEq] at h
  subst h
  simp [Op.eqItems]
 | m+1,j,xs,ys,r,hx,hy,h=>by
  have hjx:j<xs.size:=by omega
  have hjy:j<ys.size:=by omega
  rw [List.drop_eq_getElem_cons (l:=xs.toList) (by simpa using hjx),List.drop_eq_getElem_cons (l:=ys.toList) (by simpa using hjy)] at h
  have gx:xs[j]? = some xs[j]:=Array.getElem?_eq_getElem hjx
  have gy:ys[j]? = some ys[j]:=Array.getElem?_eq_getElem hjy
  simp only [Array.getElem_toList] at h
  generalize xs[j]=x at *
  generalize ys[j]=y at *
  unfold zwq at h
  split at h
  ·rename_i e1 _;cases e1
  ·rename_i k a xs' k' b ys' e1 e2
   simp only [List.cons.injEq] at e1 e2
   obtain ⟨rfl,rfl⟩:=e1
   obtain ⟨rfl,rfl⟩:=e2
   split at h
   ·rename_i hk;subst hk
    split at h
    ·rename_i q hq
     cases h
     have hrec:=zga (d:=d) hu W m (j+1) xs ys q (by omega) (by omega) hq
     have heq:(Op.equalIn (d+1) e (.int k a) (.int k b)).run P W=.ok (a==b) W:=by simp [Op.equalIn,run_underlying hu]
     simp only [List.range'_succ,Op.eqItems,Sem.run_bind,zpt hu gx,zpt hu gy,Result.andThen_ok,heq]
     cases hab:a==b
     ·simp
     ·simpa using hrec
    ·cases h
   ·cases h
  ·cases h

theorem zid {T:TypeId} {xs ys:Array Value} {r:Bool} (d:Nat) (h:zwo P T xs ys=some r) (W:World):(Op.equalIn (d+2) T (.agg xs) (.agg ys)).run P W=.ok r W/\P.eqGuardType P.depth T=false:=by
 unfold zwo at h
 split at h
 ·rename_i n hn
  split at h
  ·rename_i hs
   unfold zwp at hn
   split at hn
   ·rename_i m e hu
    split at hn
    ·rename_i kk hue
     split at hn
     ·rename_i hsz
      split at hn
      ·cases hn
      ·rename_i hg
       cases hn
       refine ⟨?_,by simpa using hg⟩
       unfold zaz at hsz
       cases hi:P.info? e with
       | none=>simp [hi] at hsz
       | some i =>
        have hi1:i.size=1:=by simpa [hi] using hsz
        have hc:P.cellsOf e=1:=by simp [Program.cellsOf,hi,hi1]
        rw [run_equalIn_array W (d+1) xs ys hu hi,hc,List.range_eq_range']
        exact zga (d:=d) hue W _ 0 xs ys r (by omega) (by omega) (by simpa using h)
     ·cases hn
    ·cases hn
   ·cases hn
  ·cases h
 ·cases h

theorem zfc {T:TypeId} {m off:Nat} {xs:Array Value} (h1:zfm P T=some true) (h2:zaz P T=some m) (h:off+m<=xs.size) (W:World):(part T xs off).run P W=.ok (.agg (xs.extract off (off+m))) W:=by
 have ha:=zfb h1 W
 have hs:=zb2 h2 W
 simp [part,ha,hs,h]
theorem zh5 {T:TypeId} {off:Nat} {xs:Array Value} {v:Value} (h1:zfm P T=some false) (h:xs[off]? = some v) (W:World):(part T xs off).run P W=.ok v W:=by
 have ha:=zfb h1 W
 simp [part,ha,h]
theorem zu4 {T off:Nat} {xs ys:Array Value} {r:Bool} (d:Nat) (h:jfr P T off xs ys=some r) (W:World) :
  ∃ a b,(part T xs off).run P W=.ok a W/\(part T ys off).run P W=.ok b W/\(Op.equalIn (d+2) T a b).run P W=.ok r W:=by
 unfold jfr at h
 split at h
 ·rename_i n hn
  split at h
  ·rename_i hs
   unfold z1g at hn
   split at hn
   ·rename_i n' m h1 h2 h3
    split at hn
    ·rename_i e
     cases hn
     subst e
     exact ⟨_,_,zfc h3 h2 hs.1 W,zfc h3 h2 hs.2 W,(zid d h W).1⟩
    ·cases hn
   ·cases hn
  ·cases h
 ·split at h
  ·rename_i hi
   unfold z3o at hi
   split at hi
   ·rename_i kk h1 h2
    split at h
    ·rename_i k a k' b e1 e2
     split at h
     ·rename_i e;subst e
      cases h
      exact ⟨_,_,zh5 h2 e1 W,zh5 h2 e2 W,by simp [Op.equalIn,run_underlying h1]⟩
     ·cases h
    ·cases h
   ·cases hi
  ·cases h
theorem zln {xs ys : Array Value} (d : Nat) (W : World) : ∀ (fs : List Field) (r : Bool), (∀ f ∈ fs, f.name ≠ "_") -> z1h P xs ys (fs.map λf => (f.type, f.offset)) = some r -> (Op.eqFields (d + 2) xs ys fs).run P W = .ok r W
 | [],r,_,h=>by
  simp only [List.map_nil,z1h,Option.some.injEq] at h
  subst h;rfl
 | f::fs,r,hn,h=>by
  simp only [List.map_cons,z1h] at h
  split at h
  ·rename_i a b ha hb
   cases h
   obtain ⟨x,y,p1,p2,p3⟩:=zu4 d ha W
   have ih:=zln d W fs b (λg hg=>hn g (List.mem_cons_of_mem _ hg)) hb
   have hnf:=hn f (by simp)
   cases a
   ·simp [Op.eqFields,hnf,p1,p2,p3]
   ·simp [Op.eqFields,hnf,p1,p2,p3,ih]
  ·cases h
theorem zk9 {T:TypeId} {l:List (TypeId×Nat)} {xs ys:Array Value} {r:Bool} (d:Nat) (hl:zgd P T=some l) (h:z1h P xs ys l=some r) (W:World):(Op.equalIn (d+3) T (.agg xs) (.agg ys)).run P W=.ok r W:=by
 unfold zgd at hl
 split at hl
 ·rename_i fs hu
  split at hl
  ·cases hl
  ·rename_i hc
   cases hl
   simp only [Bool.or_eq_true,not_or,Bool.not_eq_true] at hc
   have hfo:P.fieldsOf T=fs:=by unfold Program.fieldsOf;rw [hu]
   have e:=run_equalIn_struct (P:=P) W (d+2) T xs ys (by rw [hfo];exact hu) hc.1.1
   rw [hfo] at e
   have:=zln d W fs.toList r (λf hf hn=>by
    have:=List.any_eq_false.1 hc.2 f hf
    simp [hn] at this) h
   exact e.trans this
 ·cases hl
theorem zu5 {T off:Nat} {xs ys:Array Value} {r:Bool} (d:Nat) (h:jft P T off xs ys=some r) (W:World) :
  ∃ a b,(part T xs off).run P W=.ok a W/\(part T ys off).run P W=.ok b W/\(Op.equalIn (d+3) T a b).run P W=.ok r W:=by
 unfold jft at h
 split at h
 ·rename_i n hn
  split at h
  ·rename_i hs
   unfold z1g at hn
   split at hn
   ·rename_i n' m h1 h2 h3
    split at hn
    ·rename_i e
     cases hn
     subst e
     exact ⟨_,_,zfc h3 h2 hs.1 W,zfc h3 h2 hs.2 W,(zid (d+1) h W).1⟩
    ·cases hn
   ·cases hn
  ·cases h
 ·split at h
  ·rename_i hi
   unfold z3o at hi
   split at hi
   ·rename_i kk h1 h2
    split at h
    ·rename_i k a k' b e1 e2
     split at h
     ·rename_i e;subst e
      cases h
      exact ⟨_,_,zh5 h2 e1 W,zh5 h2 e2 W,by simp [Op.equalIn,run_underlying h1]⟩
     ·cases h
    ·cases h
   ·cases hi
  ·unfold jfu at h
   split at h
   ·rename_i l m hs
    unfold snF at hs
    split at hs
    ·rename_i l' m' h1 h2 h3
     cases hs
     split at h
     ·rename_i hsz
      exact ⟨_,_,zfc h3 h2 hsz.1 W,zfc h3 h2 hsz.2 W,zk9 d h1 h W⟩
     ·cases h
    ·cases hs
   ·cases h
theorem zlo {xs ys : Array Value} (d : Nat) (W : World) : ∀ (fs : List Field) (r : Bool), (∀ f ∈ fs, f.name ≠ "_") -> z24 P xs ys (fs.map λf => (f.type, f.offset)) = some r -> (Op.eqFields (d + 3) xs ys fs).run P W = .ok r W
 | [],r,_,h=>by
  simp only [List.map_nil,z24,Option.some.injEq] at h
  subst h;rfl
 | f::fs,r,hn,h=>by
  simp only [List.map_cons,z24] at h
  split at h
  ·rename_i a b ha hb
   cases h
   obtain ⟨x,y,p1,p2,p3⟩:=zu5 d ha W
   have ih:=zlo d W fs b (λg hg=>hn g (List.mem_cons_of_mem _ hg)) hb
   have hnf:=hn f (by simp)
   cases a
   ·simp [Op.eqFields,hnf,p1,p2,p3]
   ·simp [Op.eqFields,hnf,p1,p2,p3,ih]
  ·cases h
theorem zlg {T:TypeId} {xs ys:Array Value} {r:Bool} (h:z16 P T xs ys=some r) (W:World):(Op.equal T (.agg xs) (.agg ys)).run P W=.ok r W/\P.eqGuardType P.depth T=false:=by
 unfold z16 zuh at h
 split at h
 ·exact zid 9998 h W
 ·split at h
  ·rename_i l hl
   split at h
   ·unfold zgd at hl
    split at hl
    ·rename_i fs hu
     split at hl
     ·cases hl
     ·rename_i hc
      cases hl
      simp only [Bool.or_eq_true,not_or,Bool.not_eq_true] at hc
      have hfo:P.fieldsOf T=fs:=by unfold Program.fieldsOf;rw [hu]
      refine ⟨?_,hc.1.2⟩
      have e:=run_equalIn_struct (P:=P) W 9999 T xs ys (by rw [hfo];exact hu) hc.1.1
      rw [hfo] at e
      have:=zlo 9996 W fs.toList r (λf hf hn=>by
       have:=List.any_eq_false.1 hc.2 f hf
       simp [hn] at this) h
      exact e.trans this
    ·cases hl
   ·cases h
  ·cases h
theorem zuj {op:BinOp} {T:TypeId} {x y:Value} {ox oy:Operand} {v:Value} (h:zoe P op T x y=some v) (W:World) :
  (do eqGuard op T ox oy x y;binOp op T x y).run P W=.ok v W/\za0 v=true:=by
 unfold zoe at h
 split at h
 ·rename_i k a k' b
  have h1:=zvg (P:=P) (T:=T) h W
  refine ⟨?_,h1.2⟩
  have hg:(eqGuard op T ox oy (.int k a) (.int k' b)).run P W=.ok () W:=by unfold eqGuard;split<;>rfl
  simp only [Sem.run_bind,hg,Result.andThen_ok,h1.1]
 ·rename_i a b
  have hg:(eqGuard op T ox oy (.bool a) (.bool b)).run P W=.ok () W:=by unfold eqGuard;split<;>rfl
  split at h
  ·split at h
   ·rename_i hb
    cases h
    have hu:P.underlying T=some .bool:=by unfold zmt at hb;split at hb<;>simp_all
    exact ⟨by simp only [Sem.run_bind,hg,Result.andThen_ok,binOp,run_equal_bool W T a b hu,Sem.run_pure],rfl⟩
   ·cases h
  ·split at h
   ·rename_i hb
    cases h
    have hu:P.underlying T=some .bool:=by unfold zmt at hb;split at hb<;>simp_all
    exact ⟨by simp only [Sem.run_bind,hg,Result.andThen_ok,binOp,run_equal_bool W T a b hu,Sem.run_pure];cases a<;>cases b<;>rfl,rfl⟩
   ·cases h
  ·cases h
 ·rename_i xs ys
  split at h
  ·split at h
   ·rename_i r hr
    cases h
    have h1:=zlg hr W
    have hg:(eqGuard .eql T ox oy (.agg xs) (.agg ys)).run P W=.ok () W:=by simp [eqGuard,h1.2]
    exact ⟨by simp [Sem.run_bind,hg,binOp,h1.1],rfl⟩
   ·cases h
  ·split at h
   ·rename_i r hr
    cases h
    have h1:=zlg hr W
    have hg:(eqGuard .neq T ox oy (.agg xs) (.agg ys)).run P W=.ok () W:=by simp [eqGuard,h1.2]
    exact ⟨by simp [Sem.run_bind,hg,binOp,h1.1],rfl⟩
   ·cases h
  ·cases h
 ·rename_i p l c
  have hg:(eqGuard op T ox oy (.slice p l c) (.slice none 0 0)).run P W=.ok () W:=by unfold eqGuard;split<;>rfl
  split at h
  ·split at h
   ·rename_i hs
    cases h
    unfold ztr at hs
    split at hs
    ·rename_i e hu
     exact ⟨by simp only [Sem.run_bind,hg,Result.andThen_ok,binOp,run_equal_slice_nil W T e p l c hu,Sem.run_pure],rfl⟩
    ·cases hs
   ·cases h
  ·split at h
   ·rename_i hs
    cases h
    unfold ztr at hs
    split at hs
    ·rename_i e hu
     exact ⟨by simp only [Sem.run_bind,hg,Result.andThen_ok,binOp,run_equal_slice_nil W T e p l c hu,Sem.run_pure],rfl⟩
    ·cases hs
   ·cases h
  ·cases h
 ·cases h

theorem z0w {op:UnOp} {x v:Value} (h:un1 op x=some v) (W:World):(Op.unary op x).run P W=.ok v W/\za0 v=true:=by
 unfold un1 at h
 split at h
 ·cases h;exact ⟨by simp [Op.unary,Op.intArith],rfl⟩
 ·cases h;exact ⟨by simp [Op.unary,Op.intBits,zdy],rfl⟩
 ·cases h;exact ⟨by simp [Op.unary],rfl⟩
 ·cases h

theorem zqr {src dst:TypeId} {x v:Value} (h:zmy P src dst x=some v) (W:World):(convert src dst x).run P W=.ok v W/\za0 v=true:=by
 unfold zmy at h
 split at h
 ·rename_i u k kk m hs hd
  cases h
  refine ⟨?_,rfl⟩
  unfold convert
  simp only [Sem.run_bind,run_underlying hs,run_underlying hd,Result.andThen_ok]
  cases u<;>simp [Conv.intToInt]
 ·cases h
end
def mpC (l:List (ByteArray×Value)):Array Value:=(l.flatMap λp=>[Value.string p.1,p.2]).toArray
def mpB (l:List (ByteArray×Value)):Blk:=⟨mpC l,.mp⟩
def z5h:List Value->Option (List (ByteArray×Value))
 | []=>some []
 | .string s::v::l=>(z5h l).map ((s,v)::·)
 | _=>none
def jao (b:Blk):Option (List (ByteArray×Value)):=match b.T with
 | .mp=>z5h b.c.toList
 | _=>none
theorem z0x:∀ l:List (ByteArray×Value),z5h (l.flatMap λp=>[Value.string p.1,p.2])=some l
 | []=>rfl
 | p::l=>by simp [z5h,z0x l]
theorem ztw:∀ (cs:List Value) (l:List (ByteArray×Value)),z5h cs=some l->cs=l.flatMap λp=>[Value.string p.1,p.2]
 | [],l,h=>by simp [z5h] at h;subst h;rfl
 | [v],l,h=>by cases v<;>simp [z5h] at h
 | k::v::cs,l,h=>by
  cases k with
  | string s =>
   simp only [z5h,Option.map_eq_some_iff] at h
   obtain ⟨l',h1,rfl⟩:=h
   rw [ztw cs l' h1];simp
  | _=>simp [z5h] at h
theorem zte (l:List (ByteArray×Value)):jao (mpB l)=some l:=by simp [jao,mpB,mpC,z0x]
theorem ztd {b:Blk} {l:List (ByteArray×Value)} (h:jao b=some l):b=mpB l:=by
 obtain ⟨c,T⟩:=b
 cases T with
 | mp =>
  simp only [jao] at h
  unfold mpB mpC
  rw [<-ztw _ _ h]
 | _=>simp [jao] at h
def zc4 (s:ByteArray):List (ByteArray×Value)->Option Value
 | []=>none
 | p::l=>if (s==p.1)=true then some p.2 else zc4 s l
def zn0 (r:Nat->Nat):List (ByteArray×Value)->Nat->List MapEntry
 | [],_=>[]
 | p::l,i=>⟨.string p.1,zak r p.2,i⟩::zn0 r l (i+1)
theorem zsp (r:Nat->Nat):∀ (l:List (ByteArray×Value)) (i:Nat),(zn0 r l i).length=l.length
 | [],_=>rfl
 | p::l,i=>by simp [zn0,zsp r l]
theorem zy5 (r:Nat->Nat):∀ (l:List (ByteArray×Value)) (i:Nat),mpL ((l.flatMap λp=>[Value.string p.1,p.2]).map (zak r)) i=zn0 r l i
 | [],_=>rfl
 | p::l,i=>by
  simp only [List.flatMap_cons,List.cons_append,List.nil_append,List.map_cons,mpL,zn0,zy5 r l]
  rfl
theorem zrh (r:Nat->Nat) (l:List (ByteArray×Value)):(mpB l).obj r=.map (zn0 r l 0).toArray l.length:=by
 unfold Blk.obj mpB jan mpC
 simp only [List.map_toArray,zy5,zsp]
theorem zso (r:Nat->Nat) (q:ByteArray×Value):∀ (l:List (ByteArray×Value)) (i:Nat),zn0 r (l++[q]) i=zn0 r l i++[⟨.string q.1,zak r q.2,i+l.length⟩]
 | [],i=>by simp [zn0]
 | p::l,i=>by simp only [List.cons_append,zn0,zso r q l,List.length_cons];rw [show i+1+l.length=i+(l.length+1) by omega]
theorem zov (r:Nat->Nat) (s:ByteArray):∀ (l:List (ByteArray×Value)) (i j:Nat),zc4 s l=none->Instr.findNow .string (.string s) (zn0 r l i) j=some none
 | [],_,_,_=>rfl
 | p::l,i,j,h=>by
  simp only [zc4] at h
  split at h
  ·cases h
  ·rename_i hc
   simp only [zn0,Instr.findNow,Instr.sameNow]
   rw [show (s==p.1)=false by simpa using hc]
   exact zov r s l (i+1) (j+1) h
theorem zow (r:Nat->Nat) (s:ByteArray) {v:Value}:∀ (l:List (ByteArray×Value)) (i j:Nat),zc4 s l=some v->∃ k,Instr.findNow .string (.string s) (zn0 r l i) j=some (some (k,zak r v))
 | [],_,_,h=>by cases h
 | p::l,i,j,h=>by
  simp only [zc4] at h
  split at h
  ·rename_i hc
   cases h
   simp only [zn0,Instr.findNow,Instr.sameNow,hc]
   exact ⟨j,rfl⟩
  ·rename_i hc
   simp only [zn0,Instr.findNow,Instr.sameNow]
   rw [show (s==p.1)=false by simpa using hc]
   exact zow r s l (i+1) (j+1) h
def zgc (P:Program) (T:TypeId):Bool:=match P.underlying T with
 | some (.map kt _)=>(match P.underlying kt with|some .string=>true|_=>false)
 | _=>false
theorem zpw {P:Program} {T:TypeId} (h:zgc P T=true):∃ kt e,P.underlying T=some (.map kt e)/\P.underlying kt=some .string:=by
 unfold zgc at h
 split at h
 ·rename_i kt e hk
  split at h
  ·rename_i hs;exact ⟨kt,e,hk,hs⟩
  ·cases h
 ·cases h
section
variable {P:Program} {T:TypeId} {W:World} {k:Nat} {s:ByteArray} {r:Nat->Nat} {l:List (ByteArray×Value)}
theorem zv7 (hT:zgc P T=true) (hk:W.heap[k]? = some ((mpB l).obj r)) (hf:zc4 s l=none) {x v:Value} (hx:x=zak r v):(Instr.mapUpdate T (.map (some k)) (.string s) x).run P W=.ok () (W.putObj k ((mpB (l++[(s,v)])).obj r)):=by
 obtain ⟨kt,e,h1,h2⟩:=zpw hT
 rw [zrh] at hk |-
 have hfn:(Instr.findKey kt (.string s) (zn0 r l 0).toArray.toList).run P W=.ok none W:=MapKept.run_findKey h2 (zov r s l 0 0 hf)
 subst hx
 unfold Instr.mapUpdate
 simp only [Sem.run_bind,run_underlying h1,Result.andThen_ok,MapKept.run_getObj_map hk,MapKept.run_checkKey h2 (k:=.string s) trivial false 9999,hfn,MapKept.run_setObj_map _ hk]
 simp [World.putObj,zso]
theorem zv8 (hT:zgc P T=true) (hk:W.heap[k]? = some ((mpB l).obj r)) {v:Value} (hf:zc4 s l=some v):(Instr.lookup T (.map (some k)) (.string s) false).run P W=.ok (zak r v) W:=by
 obtain ⟨kt,e,h1,h2⟩:=zpw hT
 rw [zrh] at hk
 obtain ⟨q,hq⟩:=zow r s l 0 0 hf
 have hfn:(Instr.findKey kt (.string s) (zn0 r l 0).toArray.toList).run P W=.ok (some (q,zak r v)) W:=MapKept.run_findKey h2 hq
 unfold Instr.lookup
 simp only [Sem.run_bind,run_underlying h1,Result.andThen_ok,MapKept.run_getObj_map hk,Sem.run_pure,MapKept.run_checkKey h2 (k:=.string s) trivial _ 9999,hfn]
 simp
end
end Go.Gy
