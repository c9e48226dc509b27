/-
  Lemmas of this claim, in their order (GyA, GyB, GyC, GyD, GyB2, GyMP, GyE).
  Conditions: those of each theorem.
-/
import Derived.Orders
import Derived.Still
import Derived.Below
import Derived.RangeFuncRecord
import Derived.Tactics2
import Derived.TacticsIn
import Derived.OrdersIn
import Derived.RangeFuncLeaves
import Derived.RangeFuncSeq
import Derived.FollowTie
import Derived.RegionTactic
import Derived.Deep.MidRow
import Derived.ChangeKeysEq
import Derived.Laws.StructEq
import Derived.Laws.Cover3
import Derived.MapKept
set_option linter.unusedSimpArgs false
set_option linter.unusedVariables false
namespace Go.Gy
open Go Go.RowKit

inductive BTy
 | ty (t:TypeId)
 | raw (t:TypeId) (fr:Nat×Nat)
 | mp
def BTy.own:BTy→Bool
 | .ty _=>true
 | .raw _ _=>false
 | .mp=>false
def BTy.rd:BTy→Bool
 | .mp=>false
 | _=>true
@[simp] theorem BTy.own_ty (t:TypeId):BTy.own (.ty t)=true:=rfl
instance:Coe TypeId BTy:=⟨.ty⟩
structure Blk where
 c:Array Value
 T:BTy

abbrev Hp:=Nat→Option Blk

def upd {α:Type} (f:Nat→α) (k:Nat) (v:α):Nat→α:=fun j=>if j=k then v else f j

theorem upd_same {α:Type} (f:Nat→α) (k:Nat) (v:α):upd f k v k=v:=by simp [upd]
theorem upd_other {α:Type} (f:Nat→α) {k j:Nat} (v:α) (h:j≠k):upd f k v j=f j:=by simp [upd,h]
theorem upd_comm {α:Type} (f:Nat→α) {k l:Nat} (u v:α) (h:k≠l):upd (upd f k u) l v=upd (upd f l v) k u:=by
 funext j;unfold upd;by_cases h1:j=l<;>by_cases h2:j=k<;>simp_all

def ren0 (r:Nat→Nat):Value→Value
 | .pointer (some a)=>.pointer (some { a with block:=r a.block })
 | .slice (some a) n c=>.slice (some { a with block:=r a.block }) n c
 | .map (some b)=>.map (some (r b))
 | v=>v
def renF (r:Nat→Nat):Value→Value
 | .func fn first cap=>.func fn (first.map (ren0 r)) (cap.map (ren0 r))
 | .iface t v=>.iface t (ren0 r v)
 | v=>ren0 r v
def renA (r:Nat→Nat):Value→Value
 | .agg cs=>.agg (cs.map (renF r))
 | v=>renF r v
def ren (r:Nat→Nat):Value→Value
 | .tuple vs=>.tuple (vs.map (renA r))
 | v=>renA r v

def ids0 (D:Nat→Prop):Value→Prop
 | .pointer (some a)=>D a.block
 | .slice (some a) _ _=>D a.block
 | .map (some b)=>D b
 | _=>True
def idsF (D:Nat→Prop):Value→Prop
 | .func _ first cap=>(∀ x∈first,ids0 D x)∧(∀ x∈cap,ids0 D x)
 | .iface _ v=>ids0 D v
 | v=>ids0 D v
def idsA (D:Nat→Prop):Value→Prop
 | .agg cs=>∀ x∈cs,idsF D x
 | v=>idsF D v
def idsV (D:Nat→Prop):Value→Prop
 | .tuple vs=>∀ x∈vs,idsA D x
 | v=>idsA D v

section congr
variable {D D':Nat→Prop} {r r':Nat→Nat}
theorem ids0_mono (h:∀ k,D k→D' k):∀ {v:Value},ids0 D v→ids0 D' v:=by
 intro v;unfold ids0;split<;>first|exact h _|exact id
theorem idsF_mono (h:∀ k,D k→D' k):∀ {v:Value},idsF D v→idsF D' v:=by
 intro v
 unfold idsF
 split
 ·exact fun ⟨a,b⟩=>⟨fun x hx=>ids0_mono h (a x hx),fun x hx=>ids0_mono h (b x hx)⟩
 ·exact ids0_mono h
 ·exact ids0_mono h
theorem idsA_mono (h:∀ k,D k→D' k):∀ {v:Value},idsA D v→idsA D' v:=by
 intro v;unfold idsA;split
 ·exact fun a x hx=>idsF_mono h (a x hx)
 ·exact idsF_mono h
theorem idsV_mono (h:∀ k,D k→D' k):∀ {v:Value},idsV D v→idsV D' v:=by
 intro v;unfold idsV;split
 ·exact fun a x hx=>idsA_mono h (a x hx)
 ·exact idsA_mono h
theorem ren0_congr (h:∀ k,D k→r' k=r k):∀ {v:Value},ids0 D v→ren0 r' v=ren0 r v:=by
 intro v;unfold ids0;split<;>intro hd<;>simp_all [ren0]
theorem renF_congr (h:∀ k,D k→r' k=r k):∀ {v:Value},idsF D v→renF r' v=renF r v:=by
 intro v hv
 unfold idsF at hv
 split at hv
 ·obtain ⟨a,b⟩:=hv
  simp only [renF]
  rw [Array.map_congr_left (fun x hx=>ren0_congr h (a x hx)),Array.map_congr_left (fun x hx=>ren0_congr h (b x hx))]
 ·simp only [renF];rw [ren0_congr h hv]
 ·rename_i h1 h2
  unfold renF
  split
  ·exact absurd rfl (h1 _ _ _)
  ·exact absurd rfl (h2 _ _)
  ·exact ren0_congr h hv
theorem renA_congr (h:∀ k,D k→r' k=r k):∀ {v:Value},idsA D v→renA r' v=renA r v:=by
 intro v hv
 unfold idsA at hv
 split at hv
 ·simp only [renA]
  rw [Array.map_congr_left (fun x hx=>renF_congr h (hv x hx))]
 ·rename_i h1
  unfold renA
  split
  ·exact absurd rfl (h1 _)
  ·exact renF_congr h hv
theorem ren_congr (h:∀ k,D k→r' k=r k):∀ {v:Value},idsV D v→ren r' v=ren r v:=by
 intro v hv
 unfold idsV at hv
 split at hv
 ·simp only [ren]
  rw [Array.map_congr_left (fun x hx=>renA_congr h (hv x hx))]
 ·rename_i h1
  unfold ren
  split
  ·exact absurd rfl (h1 _)
  ·exact renA_congr h hv
end congr

def mpL:List Value→Nat→List MapEntry
 | k::v::l,i=>⟨k,v,i⟩::mpL l (i+1)
 | _,_=>[]
def mpObj (c:Array Value):Obj:=.map (mpL c.toList 0).toArray (mpL c.toList 0).length
def Blk.obj (r:Nat→Nat) (b:Blk):Obj:=match b.T with
 | .ty t=>.cells (b.c.map (renF r)) t (0,0)
 | .raw t fr=>.cells b.c t fr
 | .mp=>mpObj (b.c.map (renF r))
def Blk.obj0 (b:Blk):Obj:=match b.T with
 | .ty t=>.cells b.c t (0,0)
 | .raw t fr=>.cells b.c t fr
 | .mp=>mpObj b.c
def Blk.ids (D:Nat→Prop) (b:Blk):Prop:=match b.T with
 | .ty _=>∀ x∈b.c,idsF D x
 | .raw _ _=>True
 | .mp=>∀ x∈b.c,idsF D x
theorem Blk.ids_of {D:Nat→Prop} {b:Blk} (h:∀ x∈b.c,idsF D x):b.ids D:=by
 unfold Blk.ids;split
 ·exact h
 ·trivial
 ·exact h
theorem Blk.obj_congr {D:Nat→Prop} {r r':Nat→Nat} (h:∀ k,D k→r' k=r k) {b:Blk} (hb:b.ids D):b.obj r'=b.obj r:=by
 obtain ⟨c,T⟩:=b
 cases T with
 | ty t =>
  unfold Blk.obj
  simp only
  rw [Array.map_congr_left (fun x hx=>renF_congr h (hb x hx))]
 | raw t fr=>rfl
 | mp =>
  unfold Blk.obj
  simp only
  rw [Array.map_congr_left (fun x hx=>renF_congr h (hb x hx))]
theorem Blk.ids_mono {D D':Nat→Prop} (h:∀ k,D k→D' k) {b:Blk} (hb:b.ids D):b.ids D':=by
 obtain ⟨c,T⟩:=b
 cases T with
 | ty t=>exact fun x hx=>idsF_mono h (hb x hx)
 | raw t fr=>trivial
 | mp=>exact fun x hx=>idsF_mono h (hb x hx)

theorem Blk.obj_loop {r:Nat→Nat} {b:Blk} {L:Loop} (h:some (Obj.loop L)=some (b.obj r)):False:=by
 obtain ⟨c,T⟩:=b
 cases T<;>cases h
theorem Blk.obj_def {r:Nat→Nat} {b:Blk} {x:Option (List Deferred)} (h:some (Obj.deferred x)=some (b.obj r)):False:=by
 obtain ⟨c,T⟩:=b
 cases T<;>cases h
theorem Blk.obj0_def {b:Blk} {x:Option (List Deferred)} (h:some (Obj.deferred x)=some b.obj0):False:=by
 obtain ⟨c,T⟩:=b
 cases T<;>cases h
def dom (hp:Hp):Nat→Prop:=fun k=>hp k≠none

def junk:Value:=.complex .f32 0 1

def Rel (r:Nat→Nat) (D:Nat→Prop) (ts:Nat→Value) (a:Act):Prop :=
 ∀ t,ts t=junk∨(a.tmps.getD t undef=ren r (ts t)∧idsV D (ts t))

def Sat (r:Nat→Nat) (D:Nat→Prop) (hp:Hp) (W:World):Prop :=
 ∀ k b,hp k=some b→W.heap[r k]? = some (b.obj r)∧b.ids D
def Inj (r:Nat→Nat) (D:Nat→Prop):Prop:=∀ k l,D k→D l→r k=r l→k=l

theorem Rel.mono {r r':Nat→Nat} {D D':Nat→Prop} {ts:Nat→Value} {a:Act} (h:Rel r D ts a) (hD:∀ k,D k→D' k) (hr:∀ k,D k→r' k=r k):Rel r' D' ts a :=
 fun t=>(h t).imp id fun h=>⟨by rw [h.1,ren_congr hr h.2],idsV_mono hD h.2⟩

def putT (ts:Nat→Value) (dst:Option Tmp) (v:Value):Nat→Value :=
 match dst with
 | some d=>upd ts d v
 | none=>ts

theorem Rel.put {r:Nat→Nat} {D:Nat→Prop} {ts:Nat→Value} {a:Act} (h:Rel r D ts a) {dst:Option Tmp} (hd:∀ d,dst=some d→d<a.tmps.size) {v:Value} (hv:idsV D v) :
  Rel r D (putT ts dst v) (a.put dst (ren r v)):=by
 cases dst with
 | none=>exact h
 | some d =>
  intro t
  have hlt:=hd d rfl
  by_cases e:t=d
  ·subst e
   simp only [putT,upd_same]
   exact .inr ⟨by simp [Act.put,hlt],hv⟩
  ·simp only [putT,upd_other _ _ e]
   refine (h t).imp id fun h=>⟨?_,h.2⟩
   rw [←h.1]
   simp [Act.put,Array.getElem?_setIfInBounds_ne (Ne.symm e)]

theorem ren_undef (r:Nat→Nat):ren r undef=undef:=by simp [undef,ren]
theorem ids_undef (D:Nat→Prop):idsV D undef:=by simp [undef,idsV]


structure Eff where
  v : Value
  rs : List Nat
  ws : List (Nat × Blk)
  ns : List (Nat × Blk)
  pan : Option Value
  yl : Bool

def keys (l : List (Nat × Blk)) : List Nat := l.map (·.1)
theorem mem_keys {l : List (Nat × Blk)} {k : Nat} : k ∈ keys l ↔ ∃ p ∈ l, p.1 = k := by simp [keys]

def updL (hp : Hp) : List (Nat × Blk) → Hp
  | [] => hp
  | (k, b) :: l => updL (upd hp k (some b)) l

theorem updL_other {l : List (Nat × Blk)} : ∀ {hp : Hp} {k : Nat}, k ∉ keys l → updL hp l k = hp k := by
  induction l with
  | nil => intro hp k _; rfl
  | cons p l ih =>
    intro hp k hk
    obtain ⟨q, b⟩ := p
    simp only [keys, List.map_cons, List.mem_cons, not_or] at hk
    simp only [updL]
    rw [ih (by simpa [keys] using hk.2), upd_other _ _ hk.1]

theorem updL_comm_upd {l : List (Nat × Blk)} : ∀ {hp : Hp} {k : Nat} {b : Option Blk}, k ∉ keys l → updL (upd hp k b) l = upd (updL hp l) k b := by
  induction l with
  | nil => intro hp k b _; rfl
  | cons p l ih =>
    intro hp k b hk
    obtain ⟨q, c⟩ := p
    simp only [keys, List.map_cons, List.mem_cons, not_or] at hk
    simp only [updL]
    rw [upd_comm _ _ _ hk.1, ih (by simpa [keys] using hk.2)]

theorem updL_comm {l m : List (Nat × Blk)} : ∀ {hp : Hp}, (∀ k ∈ keys l, k ∉ keys m) → updL (updL hp l) m = updL (updL hp m) l := by
  induction l with
  | nil => intro hp _; rfl
  | cons p l ih =>
    intro hp h
    obtain ⟨q, c⟩ := p
    simp only [updL]
    rw [ih (fun k hk => h k (by simp [keys] at hk ⊢; exact .inr hk)), updL_comm_upd (h q (by simp [keys]))]

theorem updL_dom {l : List (Nat × Blk)} : ∀ {hp : Hp} {k : Nat}, dom (updL hp l) k ↔ dom hp k ∨ k ∈ keys l := by
  induction l with
  | nil => intro hp k; simp [updL, keys]
  | cons p l ih =>
    intro hp k
    obtain ⟨q, c⟩ := p
    simp only [updL]
    rw [ih]
    by_cases e : k = q
    · subst e; simp [dom, upd_same, keys]
    · simp [dom, upd_other _ _ e, keys, e]

theorem updL_mem {l : List (Nat × Blk)} : ∀ {hp : Hp} {k : Nat} {b : Blk}, updL hp l k = some b → (hp k = some b ∧ k ∉ keys l) ∨ (k, b) ∈ l := by
  induction l with
  | nil => intro hp k b h; exact .inl ⟨h, by simp [keys]⟩
  | cons p l ih =>
    intro hp k b h
    obtain ⟨q, c⟩ := p
    simp only [updL] at h
    rcases ih h with ⟨h1, h2⟩ | h1
    · by_cases e : k = q
      · subst e; rw [upd_same] at h1; cases h1; exact .inr (by simp)
      · rw [upd_other _ _ e] at h1; exact .inl ⟨h1, by simp [keys, e] at h2 ⊢; exact h2⟩
    · exact .inr (List.mem_cons_of_mem _ h1)

def rst (hp : Hp) (rs : List Nat) : Hp := fun k => if k < 100 ∨ k ∈ rs then hp k else none
theorem rst_sub {hp : Hp} {rs : List Nat} {k : Nat} {b : Blk} (h : rst hp rs k = some b) : hp k = some b := by
  unfold rst at h; split at h
  · exact h
  · cases h
theorem rst_congr {hp hp' : Hp} {rs : List Nat} (h : ∀ k, (k < 100 ∨ k ∈ rs) → hp k = hp' k) : rst hp rs = rst hp' rs := by
  funext k; unfold rst; split
  · rename_i hk; exact h k hk
  · rfl

def extD (D : Nat → Prop) (ns : List (Nat × Blk)) : Nat → Prop := fun k => D k ∨ k ∈ keys ns

structure Turn (r' : Nat → Nat) (D' : Nat → Prop) (W W' : World) (ws ns : List (Nat × Blk)) : Prop where
  os : W'.os = W.os
  tape : W'.tape = W.tape
  output : W'.output = W.output
  size : W.heap.size ≤ W'.heap.size
  same : ∀ k, k < W.heap.size → (∀ p ∈ ws, r' p.1 ≠ k) → W'.heap[k]? = W.heap[k]?
  has : ∀ p ∈ ws ++ ns, W'.heap[r' p.1]? = some (p.2.obj r') ∧ p.2.ids D'
  fresh : ∀ p ∈ ns, W.heap.size ≤ r' p.1
  apart : ∀ p ∈ ns, ∀ q ∈ ns, r' p.1 = r' q.1 → p.1 = q.1

theorem Turn.of_below {r : Nat → Nat} {D : Nat → Prop} {W W' : World} (h : Below W.heap.size W W') : Turn r D W W' [] [] :=
  ⟨h.os, h.tape, h.output, h.size, fun k hk _ => h.block k hk, fun p hp => by simp at hp, fun p hp => by simp at hp, fun p hp => by simp at hp⟩

def Fs (P : Program) : Fence := { fn := fun f => ∃ fn, P.funcs[f]? = some fn, depth := none, alive := false }
abbrev CallsS (P : Program) (f : FuncId) (args : Array Value) (W : World) (R : Ending → World → Prop) : Prop := CallsIn (Fs P) 0 P f args W R
theorem CallsS.mono {P : Program} {f : FuncId} {args : Array Value} {W : World} {R R' : Ending → World → Prop} (h : CallsS P f args W R) (hr : ∀ e w, R e w → R' e w) : CallsS P f args W R' := CallsIn.mono h hr
theorem room_Fs (P : Program) (n : Nat) : (Fs P).room n := fun _ h => by simp [Fs] at h
theorem CallsS.calls {P : Program} {f : FuncId} {args : Array Value} {W : World} {R : Ending → World → Prop} (h : CallsS P f args W R) : Calls P f args W R := fun cs => by
  obtain ⟨e, w', fr, r, s, x⟩ := h.2 cs (room_Fs P _)
  refine ⟨e, w', fr, r, ?_, x⟩
  cases e with
  | returned v => exact stepsIn_wide.1 (StepsIn.mono (fun m _ => fenced_wide P m) s)
  | panicked ch => exact stepsIn_wide.1 (StepsIn.mono (fun m _ => fenced_wide P m) s)
  | outgrown => exact s
theorem callFunc_ok {P : Program} {f : FuncId} {args : Array Value} {W W' : World} {x : Next} (h : (callFunc f args).run P W = .ok x W') : ∃ fn, P.funcs[f]? = some fn := by
  unfold callFunc at h
  simp only [Sem.run_bind, run_program, Result.andThen_ok] at h
  cases hf : P.funcs[f]? with
  | none => simp [hf, stuck] at h
  | some fn => exact ⟨fn, rfl⟩

theorem about_ok {P : Program} {o : Oper} {ρ : Operand → Value} {W W' : World} {x : Next} (h : (execOp ρ o).run P W = .ok x W') : ∀ f, o.about P W ρ = some f → (Fs P).fn f := by
  intro f hf
  unfold Oper.about at hf
  unfold execOp at h
  split at hf
  · rename_i c hc
    simp only [hc, Sem.run_bind] at h
    cases hr : (resolve ρ c o.type).run P W with
    | halt y w => rw [hr] at hf; cases hf
    | ok dd w =>
      rw [hr] at hf h
      simp only [Result.andThen_ok] at h
      have ht := invoke_tie P w dd.target dd.args
      have hf' : dd.target.leads P w dd.args = some f := hf
      split at ht
      all_goals first
        | (rcases ht with ⟨g, args', w', h1, h2⟩ | ⟨y, w', h2⟩
           · rw [hf'] at h1
             cases h1
             rw [h2] at h
             exact callFunc_ok h
           · rw [h2] at h
             cases h)
        | (rw [ht] at hf'; cases hf')
  · cases hf

def Upon (P : Program) (o : Oper) (a : Act) (W : World) (R Rp : Value → World → Prop) : Prop :=
  match (execOp a.eval o).run P W with
  | .ok (.value u) W' => R u W'
  | .ok .skip W' => R undef W'
  | .ok (.enter f args) W' => CallsS P f args W' (fun e W'' => match e with
      | .returned u => R u W''
      | .panicked ch => ∃ pv, ch = [{ v := pv, recovered := false }] ∧ Rp pv W''
      | .outgrown => False)
  | .halt (.panic pv) W' => o.about P W a.eval = none ∧ Rp pv W'
  | _ => False

def RelOn (o : Oper) (r : Nat → Nat) (D : Nat → Prop) (ts : Nat → Value) (a : Act) : Prop :=
  ∀ t, Operand.tmp t ∈ o.op.operands → ts t = junk ∨ (a.tmps.getD t undef = ren r (ts t) ∧ idsV D (ts t))

def OpD (P : Program) (o : Oper) (ts : Nat → Value) (hp : Hp) (e : Eff) : Prop :=
  ∀ r D a W, RelOn o r D ts a → Sat r D hp W → Inj r D → (∀ k, k < 100 → D k → r k = k) → (∀ k, dom hp k → D k) → (∀ p ∈ e.ns, ¬ D p.1 ∧ 100 ≤ p.1) →
    Upon P o a W (fun u W' => e.pan = none ∧ ∃ r', (∀ k, D k → r' k = r k) ∧ u = ren r' e.v ∧ idsV (extD D e.ns) e.v ∧ Turn r' (extD D e.ns) W W' e.ws e.ns)
      (fun pv W' => e.pan = some pv ∧ Below W.heap.size W W')

structure OKP where
  ok : Oper → (Nat → Value) → Nat → Hp → Eff → Prop
  congr : ∀ o ts ts' yc yc' hp e, (∀ t, Operand.tmp t ∈ o.op.operands → ts t = ts' t) → (e.yl = true → yc = yc') → ok o ts yc hp e → ok o ts' yc' hp e
  un : Oper → (Nat → Value) → Prop
  uncongr : ∀ o ts ts', (∀ t, Operand.tmp t ∈ o.op.operands → ts t = ts' t) → un o ts → un o ts'

theorem putT_comm (ts : Nat → Value) {x y : Option Tmp} (u v : Value) (h : ∀ d, x = some d → y ≠ some d) : putT (putT ts x u) y v = putT (putT ts y v) x u := by
  cases x with
  | none => rfl
  | some d =>
    cases y with
    | none => rfl
    | some e => exact upd_comm _ _ _ (fun he => h d rfl (by rw [he]))
theorem putT_other (ts : Nat → Value) {x : Option Tmp} {t : Nat} (v : Value) (h : ∀ d, x = some d → t ≠ d) : putT ts x v t = ts t := by
  cases x with
  | none => rfl
  | some d => exact upd_other _ _ (h d rfl)

structure St where
  ts : Nat → Value
  hp : Hp
  lg : Nat → List Nat × List Nat
  yc : Nat
  yd : Bool
  pn : Option Value
  wr : Bool

def St.after (s : St) (i : Nat) (o : Oper) (e : Eff) : St :=
  { ts := putT s.ts o.dst e.v, hp := updL s.hp (e.ws ++ e.ns), lg := upd s.lg i (e.rs, keys e.ws ++ keys e.ns), yc := if e.yl then s.yc + 1 else s.yc, yd := s.yd || e.yl, pn := s.pn.or e.pan, wr := s.wr || !e.ws.isEmpty }
def St.pass (s : St) (o : Oper) : St := { s with ts := putT s.ts o.dst undef }

def wantedG (ops : Array Oper) (o : Oper) (ts : Nat → Value) : Option Bool :=
  match o.guard with
  | none => some true
  | some (j, w) =>
    match (ops[j]?).bind (·.dst) with
    | some d => match ts d with
      | .bool b => some (b == w)
      | .tuple _ => some false
      | _ => none
    | none => some false

def waitsB (md : Region.Mode) (ops : Array Oper) (i j : Nat) : Bool :=
  match ops[i]? with
  | some o => o.after.any fun e => Region.binds md e && e.on == j
  | none => false

structure Fits (md : Region.Mode) (ops : Array Oper) (base i : Nat) (s : St) (e : Eff) : Prop where
  wsrs : ∀ k ∈ keys e.ws, k ∈ e.rs ∧ dom s.hp k ∧ 100 ≤ k
  ids : ∀ k ∈ keys e.ns, base + 8 * i ≤ k ∧ k < base + 8 * i + 8 ∧ 100 ≤ k
  nodup : ∀ k ∈ keys e.ns, s.hp k = none
  once : ∀ k b c, (k, b) ∈ e.ws ++ e.ns → (k, c) ∈ e.ws ++ e.ns → b = c
  log : ∀ j, waitsB md ops i j = false → (∀ k ∈ e.rs ++ keys e.ns, k ∉ (s.lg j).2) ∧ (∀ k ∈ keys e.ws ++ keys e.ns, k ∉ (s.lg j).1)
  new : s.lg i = ([], [])
  pan : e.pan ≠ none → s.pn = none
  yl : e.yl = true → s.yd = false

def gOp (OK : OKP) (md : Region.Mode) (ops : Array Oper) (base i : Nat) (K : St → Prop) (s : St) : Prop :=
  match ops[i]? with
  | none => K s
  | some o => match wantedG ops o s.ts with
    | some true => ∃ e, OK.ok o s.ts s.yc (rst s.hp e.rs) e ∧ Fits md ops base i s e ∧ K (s.after i o e)
    | some false => OK.un o s.ts ∧ K (s.pass o)
    | none => False

def wpAnyG (OK : OKP) (md : Region.Mode) (ops : Array Oper) (base : Nat) (K : St → Prop) : Nat → Array Bool → St → Prop
  | 0, listed, s => Region.ready md ops listed = [] ∧ K s
  | fuel + 1, listed, s =>
    (Region.ready md ops listed = [] → K s) ∧
    ∀ i ∈ Region.ready md ops listed, gOp OK md ops base i (wpAnyG OK md ops base K fuel (listed.setIfInBounds i true)) s

def YieldG (OK : OKP) (md : Region.Mode) (ops : Array Oper) (base i : Nat) (o : Oper) (e : Option Eff) (s : St) : Prop :=
  match e with
  | some e => wantedG ops o s.ts = some true ∧ OK.ok o s.ts s.yc (rst s.hp e.rs) e ∧ Fits md ops base i s e
  | none => wantedG ops o s.ts = some false ∧ OK.un o s.ts

def St.next (s : St) (i : Nat) (o : Oper) : Option Eff → St
  | some e => s.after i o e
  | none => s.pass o

theorem yieldG_gOp {OK : OKP} {md : Region.Mode} {ops : Array Oper} {base i : Nat} {o : Oper} {e : Option Eff} {s : St} {K : St → Prop} (hi : ops[i]? = some o) (hy : YieldG OK md ops base i o e s) (h : K (s.next i o e)) :
    gOp OK md ops base i K s := by
  unfold gOp; simp only [hi]
  cases e with
  | some e => obtain ⟨h1, h2, h3⟩ := hy; simp only [h1]; exact ⟨e, h2, h3, h⟩
  | none => simp only [YieldG] at hy; simp only [hy.1]; exact ⟨hy.2, h⟩

theorem gOp_yieldG {OK : OKP} {md : Region.Mode} {ops : Array Oper} {base i : Nat} {o : Oper} {s : St} {K : St → Prop} (hi : ops[i]? = some o) (h : gOp OK md ops base i K s) :
    ∃ e, YieldG OK md ops base i o e s ∧ K (s.next i o e) := by
  unfold gOp at h; simp only [hi] at h
  cases hw : wantedG ops o s.ts with
  | none => rw [hw] at h; exact h.elim
  | some b =>
    cases b with
    | true => rw [hw] at h; obtain ⟨e, h1, h2, h3⟩ := h; exact ⟨some e, ⟨hw, h1, h2⟩, h3⟩
    | false => rw [hw] at h; exact ⟨none, ⟨hw, h.1⟩, h.2⟩

theorem wantedG_congr {ops : Array Oper} {o : Oper} {ts ts' : Nat → Value} (h : ∀ t ∈ o.looksAt ops, ts t = ts' t) : wantedG ops o ts = wantedG ops o ts' := by
  unfold wantedG
  cases hg : o.guard with
  | none => rfl
  | some g =>
    obtain ⟨j, w⟩ := g
    cases hd : (ops[j]?).bind (·.dst) with
    | none => simp [hd]
    | some d =>
      have : ts d = ts' d := h d (by simp [Oper.looksAt, hg, hd])
      simp [hd, this]

theorem OpD.congr {P : Program} {o : Oper} {ts ts' : Nat → Value} {hp : Hp} {e : Eff} (h : OpD P o ts hp e) (ht : ∀ t, Operand.tmp t ∈ o.op.operands → ts t = ts' t) : OpD P o ts' hp e :=
  fun r D a W hr => h r D a W (fun t ht' => by rw [ht t ht']; exact hr t ht')

theorem looksAt_of_operand {ops : Array Oper} {o : Oper} {t : Tmp} (h : Operand.tmp t ∈ o.op.operands) : t ∈ o.looksAt ops :=
  List.mem_append_left _ (List.mem_filterMap.2 ⟨.tmp t, by simpa using h, rfl⟩)

theorem yieldG_swap {OK : OKP} {md : Region.Mode} {ops : Array Oper} {base i j : Nat} {oi oj : Oper} {ei ej : Option Eff} {s : St} (hne : i ≠ j)
    (hap : oi.apart ops oj = true) (hw : waitsB md ops j i = false) (hw' : waitsB md ops i j = false)
    (hy : YieldG OK md ops base i oi ei s) (h : YieldG OK md ops base j oj ej (s.next i oi ei)) :
    YieldG OK md ops base j oj ej s ∧ YieldG OK md ops base i oi ei (s.next j oj ej) ∧ (s.next i oi ei).next j oj ej = (s.next j oj ej).next i oi ei := by
  obtain ⟨h1, h2, h3⟩ := Oper.apart_spec hap
  have tsj : ∀ v, ∀ t ∈ oj.looksAt ops, putT s.ts oi.dst v t = s.ts t := fun v t ht => putT_other _ _ (fun d hd e => h1 d hd (e ▸ ht))
  have tsi : ∀ v, ∀ t ∈ oi.looksAt ops, putT s.ts oj.dst v t = s.ts t := fun v t ht => putT_other _ _ (fun d hd e => h3 d hd (e ▸ ht))
  cases ei with
  | none =>
    cases ej with
    | none =>
      refine ⟨?_, ?_, ?_⟩
      · simp only [YieldG, St.next, St.pass] at h ⊢; rw [← h.1]; exact ⟨wantedG_congr (fun t ht => (tsj _ t ht).symm), OK.uncongr _ _ _ (fun t ht => tsj _ t (looksAt_of_operand ht)) h.2⟩
      · simp only [YieldG, St.next, St.pass] at hy ⊢; rw [← hy.1]; exact ⟨wantedG_congr (fun t ht => tsi _ t ht), OK.uncongr _ _ _ (fun t ht => (tsi _ t (looksAt_of_operand ht)).symm) hy.2⟩
      · simp only [St.next, St.pass]; rw [putT_comm _ _ _ h2]
    | some e =>
      obtain ⟨a1, a2, a3⟩ := h
      refine ⟨⟨?_, ?_, ?_⟩, ?_, ?_⟩
      · rw [← a1]; exact wantedG_congr (fun t ht => (tsj _ t ht).symm)
      · exact OK.congr _ _ _ _ _ _ _ (fun t ht => tsj _ t (looksAt_of_operand ht)) (fun _ => rfl) a2
      · exact ⟨a3.wsrs, a3.ids, a3.nodup, a3.once, a3.log, a3.new, a3.pan, a3.yl⟩
      · simp only [YieldG, St.next, St.after] at hy ⊢; rw [← hy.1]; exact ⟨wantedG_congr (fun t ht => tsi _ t ht), OK.uncongr _ _ _ (fun t ht => (tsi _ t (looksAt_of_operand ht)).symm) hy.2⟩
      · simp only [St.next, St.pass, St.after]; rw [putT_comm _ _ _ h2]
  | some e =>
    obtain ⟨b1, b2, b3⟩ := hy
    cases ej with
    | none =>
      refine ⟨?_, ⟨?_, ?_, ?_⟩, ?_⟩
      · simp only [YieldG, St.next, St.after] at h ⊢; rw [← h.1]; exact ⟨wantedG_congr (fun t ht => (tsj _ t ht).symm), OK.uncongr _ _ _ (fun t ht => tsj _ t (looksAt_of_operand ht)) h.2⟩
      · simp only [St.next, St.pass]; rw [← b1]; exact wantedG_congr (fun t ht => tsi _ t ht)
      · simp only [St.next, St.pass]; exact OK.congr _ _ _ _ _ _ _ (fun t ht => (tsi _ t (looksAt_of_operand ht)).symm) (fun _ => rfl) b2
      · exact ⟨b3.wsrs, b3.ids, b3.nodup, b3.once, b3.log, b3.new, b3.pan, b3.yl⟩
      · simp only [St.next, St.pass, St.after]; rw [putT_comm _ _ _ h2]
    | some f =>
      obtain ⟨a1, a2, a3⟩ := h
      simp only [St.next, St.after] at a1 a2 a3
      have lgi : (upd s.lg i (e.rs, keys e.ws ++ keys e.ns)) i = (e.rs, keys e.ws ++ keys e.ns) := upd_same _ _ _
      have hlog := a3.log i hw
      simp only [lgi] at hlog
      -- what e touches f does not turn, and the other way about
      have k1 : ∀ k ∈ f.rs ++ keys f.ns, k ∉ keys (e.ws ++ e.ns) := fun k hk hm => hlog.1 k hk (by simpa [keys] using hm)
      have k2 : ∀ k ∈ keys (f.ws ++ f.ns), k ∉ e.rs := fun k hk => hlog.2 k (by simpa [keys] using hk)
      have k3 : ∀ k ∈ keys (e.ws ++ e.ns), k ∉ keys (f.ws ++ f.ns) := fun k hk hm => by
        have hm' : k ∈ keys f.ws ∨ k ∈ keys f.ns := by simpa [keys] using hm
        rcases hm' with hm' | hm'
        · exact k1 k (List.mem_append_left _ (a3.wsrs k hm').1) hk
        · exact k1 k (List.mem_append_right _ hm') hk
      have big : ∀ k ∈ keys (e.ws ++ e.ns), 100 ≤ k := fun k hk => by
        have : k ∈ keys e.ws ∨ k ∈ keys e.ns := by simpa [keys] using hk
        rcases this with h | h
        · exact (b3.wsrs k h).2.2
        · exact (b3.ids k h).2.2
      have big' : ∀ k ∈ keys (f.ws ++ f.ns), 100 ≤ k := fun k hk => by
        have : k ∈ keys f.ws ∨ k ∈ keys f.ns := by simpa [keys] using hk
        rcases this with h | h
        · exact (a3.wsrs k h).2.2
        · exact (a3.ids k h).2.2
      have r1 : rst (updL s.hp (e.ws ++ e.ns)) f.rs = rst s.hp f.rs := rst_congr fun k hk => updL_other fun hm => by
        rcases hk with hk | hk
        · have := big k hm; omega
        · exact k1 k (List.mem_append_left _ hk) hm
      have r2 : rst (updL s.hp (f.ws ++ f.ns)) e.rs = rst s.hp e.rs := rst_congr fun k hk => updL_other fun hm => by
        rcases hk with hk | hk
        · have := big' k hm; omega
        · exact k2 k hm hk
      have lgj : s.lg j = ([], []) := by have := a3.new; dsimp only at this; rwa [upd_other _ _ (Ne.symm hne)] at this
      have yls : f.yl = true → e.yl = false ∧ s.yd = false := fun hf => by
        have := a3.yl hf; simp only [Bool.or_eq_false_iff] at this; exact ⟨this.2, this.1⟩
      have yls' : e.yl = true → f.yl = false := fun he => by
        cases hf : f.yl with
        | false => rfl
        | true => rw [(yls hf).1] at he; cases he
      have pns : f.pan ≠ none → e.pan = none ∧ s.pn = none := fun hf => by
        have := a3.pan hf; simp only [Option.or_eq_none_iff] at this; exact ⟨this.2, this.1⟩
      have pns' : e.pan ≠ none → f.pan = none := fun he => by
        cases hf : f.pan with
        | none => rfl
        | some v => exact absurd (pns (by rw [hf]; simp)).1 he
      refine ⟨⟨?_, ?_, ?_⟩, ⟨?_, ?_, ?_⟩, ?_⟩
      · rw [← a1]; exact wantedG_congr (fun t ht => (tsj _ t ht).symm)
      · rw [← r1]; exact OK.congr _ _ _ _ _ _ _ (fun t ht => tsj _ t (looksAt_of_operand ht)) (fun hf => by rw [(yls hf).1]; simp) a2
      · refine ⟨fun k hk => ⟨(a3.wsrs k hk).1, ?_, (a3.wsrs k hk).2.2⟩, a3.ids, fun k hk => ?_, a3.once, fun q hq => ?_, lgj, fun hf => (pns hf).2, fun hf => (yls hf).2⟩
        · rcases updL_dom.1 (a3.wsrs k hk).2.1 with h | h
          · exact h
          · exact absurd h (k1 k (List.mem_append_left _ (a3.wsrs k hk).1))
        · have := a3.nodup k hk
          dsimp only at this
          rwa [updL_other (k1 k (List.mem_append_right _ hk))] at this
        · by_cases hqi : q = i
          · subst hqi; rw [b3.new]; simp
          · have := a3.log q hq; dsimp only at this; rwa [upd_other _ _ hqi] at this
      · simp only [St.next, St.after]; rw [← b1]; exact wantedG_congr (fun t ht => tsi _ t ht)
      · simp only [St.next, St.after]; rw [r2]; exact OK.congr _ _ _ _ _ _ _ (fun t ht => (tsi _ t (looksAt_of_operand ht)).symm) (fun he => by rw [yls' he]; simp) b2
      · simp only [St.next, St.after]
        refine ⟨fun k hk => ⟨(b3.wsrs k hk).1, updL_dom.2 (.inl (b3.wsrs k hk).2.1), (b3.wsrs k hk).2.2⟩, b3.ids, fun k hk => ?_, b3.once, fun q hq => ?_, ?_, fun he => ?_, fun he => ?_⟩
        · show updL s.hp (f.ws ++ f.ns) k = none
          rw [updL_other (fun hm => k3 k (by simpa [keys] using Or.inr (by simpa [keys] using hk)) hm)]
          exact b3.nodup k hk
        · by_cases hqj : q = j
          · subst hqj
            simp only [upd_same]
            refine ⟨fun k hk hm => ?_, fun k hk hm => ?_⟩
            · rcases List.mem_append.1 hk with hk | hk
              · exact k2 k (by simpa [keys] using hm) hk
              · exact k3 k (by simp [keys] at hk ⊢; exact .inr hk) (by simpa [keys] using hm)
            · exact k1 k (List.mem_append_left _ hm) (by simpa [keys] using hk)
          · simp only [upd_other _ _ hqj]; exact b3.log q hq
        · show upd s.lg j _ i = _
          rw [upd_other _ _ hne]; exact b3.new
        · show s.pn.or f.pan = none
          rw [b3.pan he, pns' he]; rfl
        · show (s.yd || f.yl) = false
          rw [b3.yl he, yls' he]; rfl
      · simp only [St.next, St.after]
        rw [putT_comm _ _ _ h2, updL_comm k3, upd_comm _ _ _ hne, Bool.or_right_comm, Bool.or_right_comm s.wr]
        have e1 : (s.pn.or e.pan).or f.pan = (s.pn.or f.pan).or e.pan := by
          cases he : e.pan with
          | none => cases hf : f.pan <;> cases s.pn <;> rfl
          | some v => rw [pns' (by rw [he]; simp)]; cases s.pn <;> rfl
        have e2 : (if f.yl = true then (if e.yl = true then s.yc + 1 else s.yc) + 1 else if e.yl = true then s.yc + 1 else s.yc) = (if e.yl = true then (if f.yl = true then s.yc + 1 else s.yc) + 1 else if f.yl = true then s.yc + 1 else s.yc) := by
          cases e.yl <;> cases f.yl <;> rfl
        rw [e1, e2]

theorem waitsB_of {md : Region.Mode} {ops : Array Oper} {i j : Nat} {o : Oper} (ho : ops[i]? = some o) (h : ∀ e ∈ o.after, Region.binds md e = true → e.on ≠ j) : waitsB md ops i j = false := by
  unfold waitsB; simp only [ho]
  rw [Array.any_eq_false]
  intro k hk
  have hm : o.after[k] ∈ o.after := Array.getElem_mem hk
  cases hb : Region.binds md o.after[k] with
  | false => simp
  | true => simpa using h _ hm hb

theorem wpAnyG_first {OK : OKP} {md : Region.Mode} {ops : Array Oper} {base : Nat} {K : St → Prop} {i : Nat} {oi : Oper} {ei : Option Eff} (hi : ops[i]? = some oi) :
    ∀ (fuel : Nat) (listed : Array Bool) (s : St),
      (∀ j oj, ops[j]? = some oj → j ≠ i → listed.getD j true = false → (∀ e ∈ oj.after, Region.binds md e = true → e.on ≠ i) → oi.apart ops oj = true) →
      i ∈ Region.ready md ops listed → YieldG OK md ops base i oi ei s →
      wpAnyG OK md ops base K fuel (listed.setIfInBounds i true) (s.next i oi ei) → wpAnyG OK md ops base K (fuel + 1) listed s := by
  intro fuel
  induction fuel with
  | zero =>
    intro listed s _ hr hy H
    refine ⟨fun h => (by rw [h] at hr; cases hr), fun j hj => ?_⟩
    by_cases hji : j = i
    · subst hji; exact yieldG_gOp hi hy H
    · have := ready_mono hj hji
      rw [H.1] at this
      cases this
  | succ fuel ih =>
    intro listed s hfree hr hy H
    refine ⟨fun h => (by rw [h] at hr; cases hr), fun j hj => ?_⟩
    by_cases hji : j = i
    · subst hji; exact yieldG_gOp hi hy H
    · have h1 := H.2 j (ready_mono hj hji)
      obtain ⟨hjun, oj, hoj, hall⟩ := mem_ready.1 hj
      obtain ⟨hiun, oi', hoi', halli⟩ := mem_ready.1 hr
      rw [hi] at hoi'; cases hoi'
      have lt_of : ∀ {k : Nat}, listed.getD k true = false → listed.getD k false = true → False := fun {k} h0 h1 => by
        rcases Nat.lt_or_ge k listed.size with h' | h'
        · simp [h'] at h0 h1; rw [h0] at h1; cases h1
        · simp [Array.getElem?_eq_none h'] at h1
      have hnot : ∀ e ∈ oj.after, Region.binds md e = true → e.on ≠ i := fun e he hb heq => lt_of hiun (heq ▸ hall e he hb)
      have hnot' : ∀ e ∈ oi.after, Region.binds md e = true → e.on ≠ j := fun e he hb heq => lt_of hjun (heq ▸ halli e he hb)
      obtain ⟨ej, hyj, hK⟩ := gOp_yieldG hoj h1
      obtain ⟨c1, c2, c3⟩ := yieldG_swap (Ne.symm hji) (hfree j oj hoj hji hjun hnot) (waitsB_of hoj hnot) (waitsB_of hi hnot') hy hyj
      have hfree' : ∀ k ok, ops[k]? = some ok → k ≠ i → (listed.setIfInBounds j true).getD k true = false →
          (∀ e ∈ ok.after, Region.binds md e = true → e.on ≠ i) → oi.apart ops ok = true := fun k ok hk hki hun hno => by
        refine hfree k ok hk hki ?_ hno
        by_cases hjk : j = k
        · subst hjk; exact hjun
        · rw [getD_set_ne true hjk] at hun; exact hun
      refine yieldG_gOp hoj c1 (ih (listed.setIfInBounds j true) _ hfree' (ready_mono hr (Ne.symm hji)) c2 ?_)
      rw [Array.setIfInBounds_comm _ _ hji, ← c3]
      exact hK

def wpLex (OK : OKP) (md : Region.Mode) (ops : Array Oper) (base : Nat) (K : St → Prop) : Nat → List Oper → St → Prop
  | _, [], s => K s
  | k, o :: rest, s => match wantedG ops o s.ts with
    | some true => ∃ e, OK.ok o s.ts s.yc (rst s.hp e.rs) e ∧ Fits md ops base k s e ∧ wpLex OK md ops base K (k + 1) rest (s.after k o e)
    | some false => OK.un o s.ts ∧ wpLex OK md ops base K (k + 1) rest (s.pass o)
    | none => False

theorem wpAnyG_lex {OK : OKP} {md : Region.Mode} {ops : Array Oper} {base : Nat} {K : St → Prop} : ∀ (l : List Oper) (k : Nat) (listed : Array Bool) (s : St), (∀ j, l[j]? = ops[k + j]?) →
    Region.lexFrom md ops l.length k listed = true → wpLex OK md ops base K k l s → wpAnyG OK md ops base K l.length listed s
  | [], _, _, _, _, hB, h => ⟨by simpa [Region.lexFrom] using hB, h⟩
  | o :: l, k, listed, s, hl, hB, h => by
    have h0 : ops[k]? = some o := by simpa using (hl 0).symm
    simp only [List.length_cons, Region.lexFrom, Bool.and_eq_true] at hB
    obtain ⟨⟨hr, hf⟩, hB'⟩ := hB
    have hst : gOp OK md ops base k (wpLex OK md ops base K (k + 1) l) s := by unfold gOp; simp only [h0]; exact h
    obtain ⟨e, hy, hK⟩ := gOp_yieldG h0 hst
    exact wpAnyG_first h0 l.length listed s (Region.free_spec h0 hf) (by simpa using hr) hy
      (wpAnyG_lex l (k + 1) _ _ (fun j => by have := hl (j + 1); simpa [Nat.add_assoc, Nat.add_comm 1 j] using this) hB' hK)


structure Ext where
  X : Nat → (Nat → Prop) → World → Prop
  ok : ∀ c S W W', X c S W → (∀ k, S k → W'.heap[k]? = W.heap[k]?) → W'.os = W.os → W'.tape = W.tape → W'.output = W.output → W.heap.size ≤ W'.heap.size → X c S W'

structure YG where
  l : Nat
  xs : List (Array Value)
  stop : Nat
  pn : Option Value
def YG.still : YG := ⟨0, [], 0, none⟩
def YG.pan (y : YG) (c : Nat) : Option Value := if c = y.stop then y.pn else none

structure Ctx where
  E : Ext
  hp0 : Hp
  r0 : Nat → Nat
  G : Hp
  Y : Option YG

def GOK (G : Hp) (W : World) : Prop := ∀ k b, G k = some b → W.heap[k]? = some b.obj0

def Rounds (P : Program) (G : Hp) (E : Ext) (y : YG) : Prop :=
  ∀ c x S W, GOK G W → y.xs[c]? = some x → c ≤ y.stop → E.X c S W → (∀ k, S k → k < W.heap.size) →
    YieldAt (Fs P) 0 P y.l x W fun e W' => (match y.pan c with | none => e = .returned (.bool (c != y.stop)) | some pv => e = .panicked [{ v := pv, recovered := false }]) ∧ GOK G W' ∧ W.heap.size ≤ W'.heap.size ∧ (∀ k, k < W.heap.size → ¬ S k → W'.heap[k]? = W.heap[k]?) ∧
      ∃ S', E.X (c + 1) S' W' ∧ (∀ k, S' k → k < W'.heap.size) ∧ ∀ k, S' k → k < W.heap.size → S k

def mark (D : Nat) : Deferred := { target := .collected D, args := #[] }

structure RI (C : Ctx) (n : Nat) (d : List Deferred) (r : Nat → Nat) (ts : Nat → Value) (hp : Hp) (yc : Nat) (a : Act) (W : World) : Prop where
  size : a.tmps.size = n
  rel : Rel r (dom hp) ts a
  sat : Sat r (dom hp) hp W
  inj : Inj r (dom hp)
  ext : ∃ (S : Nat → Prop) (ms : List Nat), C.E.X yc S W ∧ (∀ k, S k → k < W.heap.size) ∧ (∀ i, dom hp i → 100 ≤ i → ¬ S (r i)) ∧ (a.defers = ms.map mark ++ d ∧ ms.Nodup) ∧ ∀ D ∈ ms, W.heap[D]? = some (.deferred (some [])) ∧ ¬ S D ∧ C.Y ≠ some .still
  keep : ∀ i, dom C.hp0 i → dom hp i ∧ r i = C.r0 i
  glob : ∀ k, k < 100 → hp k = C.G k
  low : ∀ k, k < 100 → dom hp k → r k = k

section
variable {P : Program} {C : Ctx} {n : Nat} {d : List Deferred} {r : Nat → Nat} {ts : Nat → Value} {hp : Hp} {yc : Nat} {a : Act} {W : World}

theorem RI.lt (h : RI C n d r ts hp yc a W) {k : Nat} (hk : dom hp k) : r k < W.heap.size := by
  unfold dom at hk
  cases hb : hp k with
  | none => exact absurd hb hk
  | some b => exact (Array.getElem?_eq_some_iff.1 (h.sat k b hb).1).1

theorem RI.ne_mark (h : RI C n d r ts hp yc a W) {k D : Nat} (hk : dom hp k) (hD : W.heap[D]? = some (.deferred (some []))) : r k ≠ D := fun e => by
  unfold dom at hk
  cases hb : hp k with
  | none => exact absurd hb hk
  | some b =>
    have := (h.sat k b hb).1
    rw [e, hD] at this; exact (Blk.obj_def this).elim

theorem RI.elsewhere (h : RI C n d r ts hp yc a W) {W' : World} (os : W'.os = W.os) (tape : W'.tape = W.tape) (output : W'.output = W.output) (size : W.heap.size ≤ W'.heap.size)
    (hs : ∀ k, k < W.heap.size → W'.heap[k]? = W.heap[k]?) : RI C n d r ts hp yc a W' :=
  { h with
    sat := fun k b hk => by
      have := h.sat k b hk
      exact ⟨(hs _ (h.lt (by unfold dom; rw [hk]; simp))).trans this.1, this.2⟩
    ext := by
      obtain ⟨S, ms, h1, h2, h3, h4, h5⟩ := h.ext
      exact ⟨S, ms, C.E.ok _ _ _ _ h1 (fun k hk => hs k (h2 k hk)) os tape output size, fun k hk => Nat.lt_of_lt_of_le (h2 k hk) size, h3, h4, fun D hD => ⟨by rw [hs D (Array.getElem?_eq_some_iff.1 (h5 D hD).1).1]; exact (h5 D hD).1, (h5 D hD).2⟩⟩ }

theorem RI.drew (h : RI C n d r ts hp yc a W) : RI C n d r ts hp yc a { W with drawn := W.drawn + 1 } :=
  h.elsewhere rfl rfl rfl (Nat.le_refl _) fun _ _ => rfl

theorem RI.below (h : RI C n d r ts hp yc a W) {W' : World} (hb : Below W.heap.size W W') : RI C n d r ts hp yc a W' :=
  h.elsewhere hb.os hb.tape hb.output hb.size hb.block

theorem RI.put (h : RI C n d r ts hp yc a W) {dst : Option Tmp} (hd : ∀ d, dst = some d → d < n) {v : Value} (hv : idsV (dom hp) v) : RI C n d r (putT ts dst v) hp yc (a.put dst (ren r v)) W :=
  { h with
    size := by cases dst <;> simp [Act.put, h.size]
    ext := by cases dst <;> exact h.ext
    rel := h.rel.put (fun e he => by rw [h.size]; exact hd e he) hv }

theorem RI.put_undef (h : RI C n d r ts hp yc a W) {dst : Option Tmp} (hd : ∀ d, dst = some d → d < n) : RI C n d r (putT ts dst undef) hp yc (a.put dst undef) W := by
  have := h.put hd (ids_undef (dom hp))
  rwa [ren_undef] at this

theorem extD_iff {hp : Hp} {ws ns : List (Nat × Blk)} (hws : ∀ k ∈ keys ws, dom hp k) (k : Nat) : dom (updL hp (ws ++ ns)) k ↔ extD (dom hp) ns k := by
  rw [updL_dom]
  unfold extD
  constructor
  · rintro (h | h)
    · exact .inl h
    · have : k ∈ keys ws ∨ k ∈ keys ns := by simpa [keys] using h
      exact this.elim (fun h => .inl (hws k h)) .inr
  · rintro (h | h)
    · exact .inl h
    · exact .inr (by simp [keys] at h ⊢; exact .inr h)

theorem RI.after (h : RI C n d r ts hp yc a W) {dst : Option Tmp} (hd : ∀ d, dst = some d → d < n) {e : Eff} {r' : Nat → Nat} {W' : World} (hr : ∀ k, dom hp k → r' k = r k)
    (hv : idsV (extD (dom hp) e.ns) e.v) (ht : Turn r' (extD (dom hp) e.ns) W W' e.ws e.ns) (hws : ∀ k ∈ keys e.ws, dom hp k ∧ 100 ≤ k) (hns : ∀ k ∈ keys e.ns, hp k = none ∧ 100 ≤ k) :
    RI C n d r' (putT ts dst e.v) (updL hp (e.ws ++ e.ns)) yc (a.put dst (ren r' e.v)) W' := by
  have hD : dom (updL hp (e.ws ++ e.ns)) = extD (dom hp) e.ns := funext fun k => propext (extD_iff (fun k hk => (hws k hk).1) k)
  have old : ∀ k, extD (dom hp) e.ns k → dom hp k ∨ k ∈ keys e.ns := fun k hk => hk
  have ltW : ∀ k, dom hp k → r' k < W.heap.size := fun k hk => by rw [hr k hk]; exact h.lt hk
  have fr : ∀ k, k ∈ keys e.ns → W.heap.size ≤ r' k := fun k hk => by
    obtain ⟨p, hp', rfl⟩ := mem_keys.1 hk; exact ht.fresh p hp'
  have big : ∀ k ∈ keys (e.ws ++ e.ns), 100 ≤ k := fun k hk => by
    have : k ∈ keys e.ws ∨ k ∈ keys e.ns := by simpa [keys] using hk
    exact this.elim (fun h => (hws k h).2) (fun h => (hns k h).2)
  have inj' : Inj r' (extD (dom hp) e.ns) := fun k l hk hl hkl => by
    rcases old k hk with hk | hk <;> rcases old l hl with hl | hl
    · exact h.inj k l hk hl (by rw [← hr k hk, ← hr l hl]; exact hkl)
    · have h1 := ltW k hk; have h2 := fr l hl; omega
    · have h1 := ltW l hl; have h2 := fr k hk; omega
    · obtain ⟨p, hp1, rfl⟩ := mem_keys.1 hk
      obtain ⟨q, hq1, rfl⟩ := mem_keys.1 hl
      exact ht.apart p hp1 q hq1 hkl
  have base : RI C n d r' ts (updL hp (e.ws ++ e.ns)) yc a W' :=
    { size := h.size
      rel := by rw [hD]; exact h.rel.mono (fun k hk => .inl hk) hr
      sat := fun k b hk => by
        rw [hD]
        rcases updL_mem hk with ⟨h1, h2⟩ | h1
        · have hk' : dom hp k := by unfold dom; rw [h1]; simp
          have hs := h.sat k b h1
          refine ⟨?_, Blk.ids_mono (fun _ hk => .inl hk) hs.2⟩
          rw [ht.same (r' k) (ltW k hk') (fun p hp1 e1 => ?_), hr k hk', hs.1, Blk.obj_congr hr hs.2]
          have hp2 : p.1 ∈ keys e.ws := mem_keys.2 ⟨p, hp1, rfl⟩
          have : p.1 = k := inj' _ _ (.inl (hws _ hp2).1) (.inl hk') e1
          exact h2 (by rw [← this]; simp [keys] at hp2 ⊢; exact .inl hp2)
        · exact ht.has _ h1
      inj := by rw [hD]; exact inj'
      ext := by
        obtain ⟨S, ms, h1, h2, h3, h4, h5⟩ := h.ext
        refine ⟨S, ms, C.E.ok _ _ _ _ h1 (fun k hk => ht.same k (h2 k hk) fun p hp1 e1 => ?_) ht.os ht.tape ht.output ht.size, fun k hk => Nat.lt_of_lt_of_le (h2 k hk) ht.size, fun i hi h1i hS => ?_, h4, fun D hD => ⟨?_, (h5 D hD).2⟩⟩
        · have hp2 := (hws _ (mem_keys.2 ⟨p, hp1, rfl⟩)).1
          rw [hr _ hp2] at e1
          exact h3 _ hp2 (hws _ (mem_keys.2 ⟨p, hp1, rfl⟩)).2 (e1 ▸ hk)
        · rw [hD] at hi
          rcases old i hi with hi | hi
          · rw [hr i hi] at hS; exact h3 i hi h1i hS
          · have h6 := h2 _ hS; have h7 := fr i hi; omega
        · rw [ht.same D (Array.getElem?_eq_some_iff.1 (h5 D hD).1).1 (fun p hp1 e1 => ?_)]
          · exact (h5 D hD).1
          · have hp2 := (hws _ (mem_keys.2 ⟨p, hp1, rfl⟩)).1
            rw [hr _ hp2] at e1
            exact h.ne_mark hp2 (h5 D hD).1 e1
      keep := fun i hi => ⟨by rw [hD]; exact .inl (h.keep i hi).1, by rw [hr i (h.keep i hi).1]; exact (h.keep i hi).2⟩
      glob := fun k hk => by rw [updL_other (fun hm => by have := big k hm; omega)]; exact h.glob k hk
      low := fun k hk hd => by
        rw [hD] at hd
        rcases old k hd with hd | hd
        · rw [hr k hd]; exact h.low k hk hd
        · have := (hns k hd).2; omega }
  exact base.put hd (by rw [hD]; exact hv)

abbrev Fw (P : Program) (ro : Option Nat) : Fence := { Fs P with round := ro }

theorem wp_of_upon {ro : Option Nat} {m : Nat} {o : Oper} {R Rp : Value → World → Prop} {next : Act → World → Prop} {Q : Exit → Act → World → Prop} (hnd : ∀ c, o.op ≠ .defer c) (h : Upon P o a W R Rp) (hn : ∀ u W', R u W' → next (a.put o.dst u) W')
    (hp : ∀ pv W', Rp pv W' → Q (.panic [{ v := pv, recovered := false }]) a W') : o.wpIn (Fw P ro) m P a W next Q := by
  refine ⟨?_, ?_⟩
  · unfold Upon at h
    generalize hx : (execOp a.eval o).run P W = x at h
    cases x with
    | ok nx W' => exact about_ok hx
    | halt x W' =>
      cases x <;> first | exact h.elim | (intro f hf; rw [h.1] at hf; cases hf)
  have e : (Fw P ro).round = ro := rfl
  rw [e, Oper.semAt_eq ro a.eval o hnd]
  unfold Upon at h
  generalize (execOp a.eval o).run P W = x at h
  cases x with
  | ok nx W' =>
    cases nx <;> simp only [Oper.uponIn] at h ⊢ <;> first
      | exact hn _ _ h
      | (exact h.elim)
      | (refine ⟨fun h => (by cases h), ?_⟩
         refine CallsIn.mono (⟨h.1, fun cs _ => h.2 cs (room_Fs P _)⟩ : CallsIn (Fw P ro) (m - 1) P _ _ _ _) ?_
         intro e w'' hr
         cases e with
         | returned u => exact hn _ _ hr
         | panicked ch => obtain ⟨pv, rfl, hr⟩ := hr; exact hp _ _ hr
         | outgrown => exact hr.elim)
  | halt x W' => cases x <;> first | exact h.elim | exact hp _ _ h.2

theorem wantedG_eq {ops : Array Oper} {o : Oper} {b : Bool} (h : Rel r (dom hp) ts a) (hj : wantedG ops o ts = some b) : Region.wanted o (yielded ops a.tmps) = b := by
  unfold Region.wanted
  unfold wantedG at hj
  cases hg : o.guard with
  | none => simpa [hg] using hj
  | some g =>
    obtain ⟨j, w⟩ := g
    simp only [hg] at hj ⊢
    unfold yielded
    cases hd : (ops[j]?).bind (·.dst) with
    | none => simpa [hd] using hj
    | some t =>
      simp only [hd] at hj
      simp only [Option.bind_some]
      have ht := h t
      cases hv : ts t with
      | bool c =>
        simp only [hv, Option.some.injEq] at hj
        obtain ⟨h1, _⟩ := ht.resolve_left (by rw [hv]; simp [junk])
        rw [hv] at h1
        simp only [ren, renA, renF, ren0] at h1
        cases hq : a.tmps[t]? with
        | none => simp [hq, undef] at h1
        | some u => simp [hq] at h1; subst h1; simpa using hj
      | tuple vs =>
        simp only [hv, Option.some.injEq] at hj
        obtain ⟨h1, _⟩ := ht.resolve_left (by rw [hv]; simp [junk])
        rw [hv] at h1
        simp only [ren] at h1
        cases hq : a.tmps[t]? with
        | none => simpa using hj
        | some u => simp [hq] at h1; subst h1; simpa using hj
      | _ => simp [hv] at hj

def dstOk (n : Nat) (ops : List Oper) : Bool := ops.all fun o => (match o.dst with | some d => decide (d < n) | none => true) && (match o.op with | .defer _ => false | _ => true)
theorem dstOk_spec {n : Nat} {ops : List Oper} (h : dstOk n ops = true) {o : Oper} (ho : o ∈ ops) : (∀ d, o.dst = some d → d < n) ∧ ∀ c, o.op ≠ .defer c := by
  have := List.all_eq_true.1 h o ho
  simp only [Bool.and_eq_true] at this
  refine ⟨fun d hd => ?_, fun c hc => ?_⟩
  · have h1 := this.1; simpa [hd] using h1
  · have h2 := this.2; simp [hc] at h2

theorem step_eff {ro : Option Nat} {m : Nat} {o : Oper} {e : Eff} {next : Act → World → Prop} {Q : Exit → Act → World → Prop} (h : RI C n d r ts hp yc a W) (hd : (∀ d, o.dst = some d → d < n) ∧ ∀ c, o.op ≠ .defer c)
    (ho : OpD P o ts (rst hp e.rs) e) (hws : ∀ k ∈ keys e.ws, dom hp k ∧ 100 ≤ k) (hns : ∀ k ∈ keys e.ns, hp k = none ∧ 100 ≤ k)
    (hn : ∀ r' a' W', e.pan = none → RI C n d r' (putT ts o.dst e.v) (updL hp (e.ws ++ e.ns)) yc a' W' → next a' W')
    (hp' : ∀ pv W', e.pan = some pv → RI C n d r ts hp yc a W' → Q (.panic [{ v := pv, recovered := false }]) a W') : o.wpIn (Fw P ro) m P a W next Q := by
  refine wp_of_upon hd.2 (ho r (dom hp) a W (fun t _ => h.rel t) (fun k b hk => h.sat k b (rst_sub hk)) h.inj h.low (fun k hk => ?_) (fun p hp1 => ?_)) ?_ ?_
  · unfold dom at hk ⊢
    cases hb : rst hp e.rs k with
    | none => exact absurd hb hk
    | some b => rw [rst_sub hb]; simp
  · have := hns _ (mem_keys.2 ⟨p, hp1, rfl⟩)
    exact ⟨by unfold dom; simp [this.1], this.2⟩
  · rintro u W' ⟨hpn, r', hr, rfl, hv, ht⟩
    exact hn r' _ _ hpn (h.after hd.1 hr hv ht hws hns)
  · rintro pv W' ⟨hpn, hb⟩
    exact hp' pv W' hpn (h.below hb)

def Meets (P : Program) (C : Ctx) (n : Nat) (d : List Deferred) (ro : Option Nat) (OK : OKP) : Prop :=
  ∀ (o : Oper) (e : Eff) (ts : Nat → Value) (hp : Hp) (yc : Nat) (r : Nat → Nat) (a : Act) (W : World) (m : Nat) (next : Act → World → Prop) (Q : Exit → Act → World → Prop),
    RI C n d r ts hp yc a W → ((∀ d, o.dst = some d → d < n) ∧ ∀ c, o.op ≠ .defer c) → OK.ok o ts yc (rst hp e.rs) e → (∀ k ∈ keys e.ws, dom hp k ∧ 100 ≤ k) → (∀ k ∈ keys e.ns, hp k = none ∧ 100 ≤ k) →
    (∀ r' a' W', e.pan = none → RI C n d r' (putT ts o.dst e.v) (updL hp (e.ws ++ e.ns)) (if e.yl then yc + 1 else yc) a' W' → next a' W') →
    (∀ pv W' yc', e.pan = some pv → RI C n d r ts hp yc' a W' → Q (.panic [{ v := pv, recovered := false }]) a W') → o.wpIn (Fw P ro) m P a W next Q

def MeetsU (P : Program) (OK : OKP) : Prop :=
  ∀ (o : Oper) (ts : Nat → Value) (r : Nat → Nat) (D : Nat → Prop) (a : Act) (W : World), Rel r D ts a → OK.un o ts → ∀ f, o.about P W a.eval = some f → (Fs P).fn f

theorem wpAnyG_end {OK : OKP} {md : Region.Mode} {ops : Array Oper} {base : Nat} {K : St → Prop} : ∀ (fuel : Nat) (listed : Array Bool) (s : St), wpAnyG OK md ops base K fuel listed s → ∃ s', K s' ∧ (∀ v, s.pn = some v → s'.pn = some v) ∧ (s'.wr = false → s.wr = false)
  | 0, _, s, h => ⟨s, h.2, fun _ h => h, id⟩
  | fuel + 1, listed, s, h => by
    cases hr : Region.ready md ops listed with
    | nil => exact ⟨s, h.1 hr, fun _ h => h, id⟩
    | cons i l =>
      have h1 := h.2 i (by rw [hr]; simp)
      unfold gOp at h1
      cases ho : ops[i]? with
      | none => simp only [ho] at h1; exact wpAnyG_end fuel _ s h1
      | some o =>
        simp only [ho] at h1
        cases hw : wantedG ops o s.ts with
        | none => rw [hw] at h1; exact h1.elim
        | some b =>
          rw [hw] at h1
          cases b with
          | true =>
            obtain ⟨e, _, _, h4⟩ := h1
            obtain ⟨s', k, h5, h6⟩ := wpAnyG_end fuel _ _ h4
            refine ⟨s', k, fun v hv => h5 v (by simp [St.after, hv]), fun hs => ?_⟩
            have := h6 hs; simp only [St.after, Bool.or_eq_false_iff] at this; exact this.1
          | false =>
            obtain ⟨s', k, h5, h6⟩ := wpAnyG_end fuel _ _ h1.2
            exact ⟨s', k, h5, h6⟩

theorem putT_keep {ts : Nat → Value} {dst : Option Tmp} {v : Value} {t : Nat} (h : dst ≠ some t) : putT ts dst v t = ts t := by
  cases dst with
  | none => rfl
  | some d => exact upd_other _ _ (fun e => h (by rw [e]))
theorem wpAny_of_G {OK : OKP} {ro : Option Nat} {m : Nat} {md : Region.Mode} {ops : Array Oper} {base : Nat} {K : St → Prop} {Q : Exit → Act → World → Prop} {hp0 : Hp} {ts0 : Nat → Value} (hst : Meets P C n d ro OK) (hun : MeetsU P OK) (hdst : ∀ o ∈ ops, (∀ d, o.dst = some d → d < n) ∧ ∀ c, o.op ≠ .defer c)
    (hK : ∀ s, K s → s.pn = none → ∀ r' a' W', RI C n d r' s.ts s.hp s.yc a' W' → Q .normal a' W')
    (hP : ∀ s' pv, K s' → s'.pn = some pv → s'.wr = false → ∀ r a W ts hp yc, (∀ k b, hp0 k = some b → hp k = some b) → (∀ t, (∀ o ∈ ops, o.dst ≠ some t) → ts t = ts0 t) → RI C n d r ts hp yc a W → Q (.panic [{ v := pv, recovered := false }]) a W) (hwr : ∀ s', K s' → s'.pn ≠ none → s'.wr = false) :
    ∀ (fuel : Nat) (listed : Array Bool) (s : St) (r : Nat → Nat) (a : Act) (W : World), RI C n d r s.ts s.hp s.yc a W → s.pn = none → (s.wr = false → ∀ k b, hp0 k = some b → s.hp k = some b) → (∀ t, (∀ o ∈ ops, o.dst ≠ some t) → s.ts t = ts0 t) → wpAnyG OK md ops base K fuel listed s → wpAnyIn (Fw P ro) m P md ops Q fuel listed a W
  | 0, _, s, r, a, W, hR, hpn, hs, hts, h => ⟨h.1, hK s h.2 hpn r a W hR⟩
  | fuel + 1, listed, s, r, a, W, hR, hpn, hs, hts, h => by
    refine ⟨fun h0 => hK s (h.1 h0) hpn r a W hR, fun i hi => ?_⟩
    have h1 := h.2 i hi
    unfold wpOpIn
    unfold gOp at h1
    cases ho : ops[i]? with
    | none => simp only [ho] at h1; exact wpAny_of_G hst hun hdst hK hP hwr fuel _ s r a W hR hpn hs hts h1
    | some o =>
      simp only [ho] at h1
      have hd := hdst o (Array.mem_of_getElem? ho)
      cases hw : wantedG ops o s.ts with
      | none => rw [hw] at h1; exact h1.elim
      | some b =>
        rw [hw] at h1
        simp only [wantedG_eq hR.rel hw]
        cases b with
        | true =>
          obtain ⟨e, h2, h3, h4⟩ := h1
          simp only [if_true]
          have hs' : (s.after i o e).wr = false → ∀ k b, hp0 k = some b → (s.after i o e).hp k = some b := fun hw' k b hk => by
            simp only [St.after, Bool.or_eq_false_iff] at hw'
            have e0 : e.ws = [] := by have := hw'.2; simpa using this
            have hk' := hs hw'.1 k b hk
            show updL s.hp (e.ws ++ e.ns) k = some b
            rw [e0, List.nil_append, updL_other (fun hm => by have := h3.nodup k hm; rw [hk'] at this; cases this)]
            exact hk'
          refine hst o e s.ts s.hp s.yc r a W m _ _ hR hd h2 (fun k hk => (h3.wsrs k hk).2) (fun k hk => ⟨h3.nodup k hk, (h3.ids k hk).2.2⟩) ?_ ?_
          · intro r' a' W' hpe hR'
            exact wpAny_of_G hst hun hdst hK hP hwr fuel _ (s.after i o e) r' a' W' hR' (by simp [St.after, hpn, hpe]) hs' (fun t ht => (putT_keep (ht o (Array.mem_of_getElem? ho))).trans (hts t ht)) h4
          · intro pv W' yc' hpe hR'
            obtain ⟨s', k, h5, h6⟩ := wpAnyG_end fuel _ _ h4
            have hp5 := h5 pv (by simp [St.after, hpn, hpe])
            have hw5 := hwr s' k (by rw [hp5]; simp)
            have hw6 := h6 hw5
            simp only [St.after, Bool.or_eq_false_iff] at hw6
            exact hP s' pv k hp5 hw5 r a W' s.ts s.hp yc' (hs hw6.1) hts hR'
        | false =>
          simp only [Bool.false_eq_true, if_false]
          exact ⟨hun o s.ts r _ a W hR.rel h1.1, wpAny_of_G hst hun hdst hK hP hwr fuel _ (s.pass o) r _ W (hR.put_undef hd.1) hpn hs (fun t ht => (putT_keep (ht o (Array.mem_of_getElem? ho))).trans (hts t ht)) h1.2⟩

theorem region_draw {OK : OKP} {ro : Option Nat} {m : Nat} {id : Nat} {l : List Oper} {base : Nat} {K : St → Prop} {Q : Exit → Act → World → Prop} (hst : Meets P C n d ro OK) (hun : MeetsU P OK) (hm : P.follows .mixedOrders = true)
    (hB : Region.lexFrom .any l.toArray l.length 0 (Array.replicate l.length false) = true) (hdst : dstOk n l = true) (h : RI C n d r ts hp yc a W)
    (hw : wpLex OK .any l.toArray base K 0 l ⟨ts, hp, fun _ => ([], []), yc, false, none, false⟩) (hK : ∀ s, K s → s.pn = none → ∀ r' a' W', RI C n d r' s.ts s.hp s.yc a' W' → Q .normal a' W')
    (hP : ∀ s' pv, K s' → s'.pn = some pv → s'.wr = false → ∀ r a W ts' hp' yc, (∀ k b, hp k = some b → hp' k = some b) → (∀ t, (∀ o ∈ l, o.dst ≠ some t) → ts' t = ts t) → RI C n d r ts' hp' yc a W → Q (.panic [{ v := pv, recovered := false }]) a W) (hwr : ∀ s', K s' → s'.pn ≠ none → s'.wr = false) : (Code.region id l.toArray true).wpIn (Fw P ro) m P Q a W := by
  refine wpIn_region_any hm ?_
  have := wpAnyG_lex (md := .any) (ops := l.toArray) l 0 (Array.replicate l.length false) ⟨ts, hp, fun _ => ([], []), yc, false, none, false⟩ (by simp) hB hw
  have h2 := wpAny_of_G (C := C) (n := n) (d := d) (Q := Q) (m := m) (hp0 := hp) hst hun (fun o ho => dstOk_spec hdst (by simpa using ho)) hK (fun s' pv h1 h2 h3 r a W ts' hp' yc h4 h5 h6 => hP s' pv h1 h2 h3 r a W ts' hp' yc h4 (fun t ht => h5 t (fun o ho => ht o (by simpa using ho))) h6) hwr _ _ _ r a _ h.drew rfl (fun _ _ _ h => h) (fun _ _ => rfl) this
  simpa using h2

end

def flat0:Value→Bool
 | .pointer (some _)=>false
 | .slice (some _) _ _=>false
 | .map (some _)=>false
 | _=>true
def flatF:Value→Bool
 | .func _ first cap=>first.all flat0&&cap.all flat0
 | .iface _ v=>flat0 v
 | v=>flat0 v
def flatA:Value→Bool
 | .agg cs=>cs.all flatF
 | v=>flatF v
def flatV:Value→Bool
 | .tuple vs=>vs.all flatA
 | v=>flatA v

section
variable {r:Nat→Nat} {D:Nat→Prop}
theorem map_eq_self {f:Value→Value} {xs:Array Value} (h:∀ x∈xs,f x=x):xs.map f=xs:=by
 have:xs.map f=xs.map id:=Array.map_congr_left fun x hx=>by simpa using h x hx
 rw [this];simp
theorem flat0_ren {v:Value} (h:flat0 v=true):ren0 r v=v:=by unfold flat0 at h;split at h<;>simp_all [ren0]
theorem flat0_ids {v:Value} (h:flat0 v=true):ids0 D v:=by unfold flat0 at h;split at h<;>simp_all [ids0]
theorem flatF_ren {v:Value} (h:flatF v=true):renF r v=v:=by
 unfold flatF at h
 split at h
 ·simp only [Bool.and_eq_true] at h
  simp only [renF]
  rw [map_eq_self (fun x hx=>flat0_ren (Array.all_eq_true_iff_forall_mem.1 h.1 x hx)),map_eq_self (fun x hx=>flat0_ren (Array.all_eq_true_iff_forall_mem.1 h.2 x hx))]
 ·simp only [renF];rw [flat0_ren h]
 ·rename_i h1 h2
  unfold renF
  split
  ·exact absurd rfl (h1 _ _ _)
  ·exact absurd rfl (h2 _ _)
  ·exact flat0_ren h
theorem flatF_ids {v:Value} (h:flatF v=true):idsF D v:=by
 unfold flatF at h
 split at h
 ·simp only [Bool.and_eq_true] at h
  exact ⟨fun x hx=>flat0_ids (Array.all_eq_true_iff_forall_mem.1 h.1 x hx),fun x hx=>flat0_ids (Array.all_eq_true_iff_forall_mem.1 h.2 x hx)⟩
 ·exact flat0_ids (v:=_) h
 ·rename_i h1 h2
  unfold idsF
  split
  ·exact absurd rfl (h1 _ _ _)
  ·exact absurd rfl (h2 _ _)
  ·exact flat0_ids h
theorem Blk.obj_flat {r:Nat→Nat} {b:Blk} (h:∀ x∈b.c,flatF x=true):b.obj r=b.obj0:=by
 obtain ⟨c,T⟩:=b
 cases T with
 | ty t=>unfold Blk.obj Blk.obj0;simp only;rw [map_eq_self (fun x hx=>flatF_ren (h x hx))]
 | raw t fr=>rfl
 | mp=>unfold Blk.obj Blk.obj0;simp only;rw [map_eq_self (fun x hx=>flatF_ren (h x hx))]
theorem Blk.flat_ids {b:Blk} (h:∀ x∈b.c,flatF x=true):b.ids D:=Blk.ids_of fun x hx=>flatF_ids (h x hx)
theorem flatA_ren {v:Value} (h:flatA v=true):renA r v=v:=by
 unfold flatA at h
 split at h
 ·simp only [renA];rw [map_eq_self (fun x hx=>flatF_ren (Array.all_eq_true_iff_forall_mem.1 h x hx))]
 ·rename_i h1
  unfold renA
  split
  ·exact absurd rfl (h1 _)
  ·exact flatF_ren h
theorem flatA_ids {v:Value} (h:flatA v=true):idsA D v:=by
 unfold flatA at h
 split at h
 ·exact fun x hx=>flatF_ids (Array.all_eq_true_iff_forall_mem.1 h x hx)
 ·rename_i h1
  unfold idsA
  split
  ·exact absurd rfl (h1 _)
  ·exact flatF_ids h
theorem flatV_ren {v:Value} (h:flatV v=true):ren r v=v:=by
 unfold flatV at h
 split at h
 ·simp only [ren];rw [map_eq_self (fun x hx=>flatA_ren (Array.all_eq_true_iff_forall_mem.1 h x hx))]
 ·rename_i h1
  unfold ren
  split
  ·exact absurd rfl (h1 _)
  ·exact flatA_ren h
theorem flatV_ids {v:Value} (h:flatV v=true):idsV D v:=by
 unfold flatV at h
 split at h
 ·exact fun x hx=>flatA_ids (Array.all_eq_true_iff_forall_mem.1 h x hx)
 ·rename_i h1
  unfold idsV
  split
  ·exact absurd rfl (h1 _)
  ·exact flatA_ids h
end

def scal:Value→Bool
 | .agg _=>false
 | .tuple _=>false
 | _=>true
theorem ren_scal {r:Nat→Nat} {v:Value} (h:scal v=true):ren r v=renF r v:=by cases v<;>simp_all [scal,ren,renA]
theorem ids_scal {D:Nat→Prop} {v:Value} (h:scal v=true):idsV D v↔idsF D v:=by cases v<;>simp_all [scal,idsV,idsA]
theorem renF_scal {r:Nat→Nat} {v:Value} (h:scal v=true):scal (renF r v)=true:=by
 cases v with
 | pointer p=>cases p<;>rfl
 | slice p _ _=>cases p<;>rfl
 | map p=>cases p<;>rfl
 | agg _=>simp [scal] at h
 | tuple _=>simp [scal] at h
 | _=>rfl

def gev (ts:Nat→Value):Operand→Value
 | .tmp t=>ts t
 | .const v=>v
 | .global g=>.pointer (some ⟨g,0,none⟩)
 | .func f=>.func (.func f) #[] #[]
def nj:Value→Prop
 | .complex _ _ _=>False
 | _=>True
theorem nj_ne {v:Value} (h:nj v):v≠junk:=by intro e;rw [e] at h;exact h
def okX (ts:Nat→Value) (hp:Hp):Operand→Prop
 | .tmp t=>nj (ts t)
 | .const v=>flatV v=true
 | .global g=>g<100∧(hp g).isSome=true
 | .func _=>True

section
variable {P:Program} {o:Oper} {r:Nat→Nat} {D:Nat→Prop} {ts:Nat→Value} {a:Act} {hp:Hp}
theorem ev {x:Operand} (h:RelOn o r D ts a) (hx:x∈o.op.operands) (hk:okX ts hp x) (hlow:∀ k,k<100→D k→r k=k) (hD:∀ k,k<100→dom hp k→D k) :
  a.eval x=ren r (gev ts x)∧idsV D (gev ts x):=by
 cases x with
 | tmp t=>exact (h t hx).resolve_left (nj_ne hk)
 | const v=>exact ⟨(flatV_ren hk).symm,flatV_ids hk⟩
 | global g =>
  obtain ⟨h1,h2⟩:=hk
  have hd:D g:=hD g h1 (by unfold dom;intro e;rw [e] at h2;simp at h2)
  exact ⟨by simp [Act.eval,gev,ren,renA,renF,ren0,hlow g h1 hd],by simpa [gev,idsV,idsA,idsF,ids0] using hd⟩
 | func f=>exact ⟨by simp [Act.eval,gev,ren,renA,renF],by simp [gev,idsV,idsA,idsF]⟩

def tyAgg (P:Program) (T:TypeId):Option Bool :=
 match P.underlying T with
 | some (.struct _)=>some true
 | some (.array _ _)=>some true
 | some _=>some false
 | none=>none
def tySize (P:Program) (T:TypeId):Option Nat:=(P.info? T).map (·.size)
def tyZero (P:Program) (T:TypeId):Option Value:=(P.info? T).bind (·.zero)

theorem run_isAgg {T:TypeId} {b:Bool} (h:tyAgg P T=some b) (W:World):(isAgg T).run P W=.ok b W:=by
 unfold tyAgg at h
 unfold isAgg
 cases hu:P.underlying T with
 | none=>simp [hu] at h
 | some dd =>
  rw [Sem.run_bind,run_underlying hu W]
  cases dd<;>simp_all
theorem run_sizeOf {T:TypeId} {m:Nat} (h:tySize P T=some m) (W:World):(sizeOf T).run P W=.ok m W:=by
 unfold tySize at h
 cases hi:P.info? T with
 | none=>simp [hi] at h
 | some i=>simp [hi] at h;simp [sizeOf,typeInfo,hi,h]
theorem run_zeroValue {T:TypeId} {z:Value} (h:tyZero P T=some z) (W:World):(zeroValue T).run P W=.ok z W:=by
 unfold tyZero at h
 cases hi:P.info? T with
 | none=>simp [hi] at h
 | some i=>simp [hi] at h;simp [zeroValue,typeInfo,hi,h]

def loadB (P:Program) (T:TypeId) (c:Array Value) (off:Nat):Option Value :=
 match tyAgg P T with
 | some true=>match tySize P T with
  | some m=>if off+m≤c.size then some (.agg (c.extract off (off+m))) else none
  | none=>none
 | some false=>match c[off]? with
  | some v=>if scal v then some v else none
  | none=>none
 | none=>none

theorem run_loadVar_blk {T:TypeId} {c:Array Value} {off:Nat} {v:Value} (h:loadB P T c off=some v) {W:World} {b:Nat} {T':TypeId} {fr:Nat×Nat} (hb:W.heap[b]? = some (.cells (c.map (renF r)) T' fr)) :
  (loadVar T ⟨b,off,none⟩).run P W=.ok (ren r v) W:=by
 unfold loadB at h
 cases ha:tyAgg P T with
 | none=>simp [ha] at h
 | some bb =>
  cases bb with
  | true =>
   simp only [ha] at h
   cases hs:tySize P T with
   | none=>simp [hs] at h
   | some m =>
    simp only [hs] at h
    split at h
    ·rename_i hle
     cases h
     have hl:(loadCells ⟨b,off,none⟩ m).run P W=.ok ((c.extract off (off+m)).map (renF r)) W:=by
      have:=run_loadCells_list (P:=P) W ⟨b,off,none⟩ ((c.extract off (off+m)).map (renF r)).toList (fun j v hv=>by
       rw [Addr.add_mid,cell_of_row W b (off+j) _ _ _ hb]
       simp only [Array.getElem?_toList,Array.getElem?_map,Array.getElem?_extract] at hv
       rw [Array.getElem?_map]
       split at hv
       ·exact hv
       ·simp at hv)
      have hlen:((c.extract off (off+m)).map (renF r)).toList.length=m:=by simp;omega
      rw [hlen] at this
      rw [this,Array.toArray_toList]
     simp [loadVar,Sem.run_bind,run_isAgg ha,run_sizeOf hs,hl,ren,renA]
    ·simp at h
  | false =>
   simp only [ha] at h
   cases hc:c[off]? with
   | none=>simp [hc] at h
   | some u =>
    simp only [hc] at h
    split at h
    ·rename_i hsc
     obtain rfl:u=v:=by simpa using h
     have hcell:W.cell? ⟨b,off,none⟩=some (renF r u):=by rw [cell_of_row W b off _ _ _ hb];simp [hc]
     simp [loadVar,Sem.run_bind,run_isAgg ha,load,Sem.run,hcell,ren_scal hsc]
    ·simp at h

theorem loadB_ids {T:TypeId} {c:Array Value} {off:Nat} {v:Value} (h:loadB P T c off=some v) (hc:∀ x∈c,idsF D x):idsV D v:=by
 unfold loadB at h
 split at h
 ·split at h
  ·split at h
   ·cases h
    intro x hx
    have:=Array.mem_extract_iff_getElem.1 hx
    obtain ⟨k,hk,e⟩:=this
    exact e▸hc _ (Array.getElem_mem _)
   ·simp at h
  ·simp at h
 ·split at h
  ·rename_i u hu
   split at h
   ·rename_i hs
    cases h
    exact (ids_scal hs).2 (hc _ (Array.mem_of_getElem? hu))
   ·simp at h
  ·simp at h
 ·simp at h

def loadK (P:Program) (T:TypeId) (b:Blk) (off:Nat):Option Value:=match b.T with
 | .ty _=>loadB P T b.c off
 | .raw _ _=>match loadB P T b.c off with
  | some v=>if flatV v then some v else none
  | none=>none
 | .mp=>none
theorem renF_id (v:Value):renF (fun k=>k) v=v:=by
 have h0:∀ v,ren0 (fun k=>k) v=v:=fun v=>by unfold ren0;split<;>rfl
 unfold renF
 split
 ·have:(ren0 fun k=>k)=id:=funext h0
  rw [this];simp
 ·rw [h0]
 ·exact h0 _
theorem run_loadVar_K {T:TypeId} {k off:Nat} {b:Blk} {v:Value} (h:loadK P T b off=some v) {W:World} (hb:W.heap[k]? = some (b.obj r)):(loadVar T ⟨k,off,none⟩).run P W=.ok (ren r v) W:=by
 obtain ⟨c,t⟩:=b
 cases t with
 | ty t=>exact run_loadVar_blk h hb
 | raw t fr =>
  simp only [loadK] at h
  split at h
  ·rename_i u hu
   split at h
   ·rename_i hf
    cases h
    have e:c.map (renF fun k=>k)=c:=map_eq_self fun x _=>renF_id x
    have:=run_loadVar_blk (r:=fun k=>k) hu (W:=W) (b:=k) (T':=t) (fr:=fr) (by rw [e];exact hb)
    rw [this,flatV_ren hf,flatV_ren hf]
   ·cases h
  ·cases h
 | mp=>simp [loadK] at h
theorem loadK_ids {T:TypeId} {b:Blk} {off:Nat} {v:Value} (h:loadK P T b off=some v) (hb:b.ids D):idsV D v:=by
 obtain ⟨c,t⟩:=b
 cases t with
 | ty t=>exact loadB_ids h hb
 | raw t fr =>
  simp only [loadK] at h
  split at h
  ·split at h
   ·rename_i hf;cases h;exact flatV_ids hf
   ·cases h
  ·cases h
 | mp=>simp [loadK] at h
def splice (c:Array Value) (o:Nat):List Value→Array Value
 | []=>c
 | v::vs=>splice (c.setIfInBounds o v) (o+1) vs
theorem splice_map (f:Value→Value) (vs:List Value):∀ (c:Array Value) (o:Nat),(splice c o vs).map f=splice (c.map f) o (vs.map f):=by
 induction vs with
 | nil=>intro c o;rfl
 | cons v vs ih=>intro c o;simp only [splice,List.map_cons];rw [ih,Array.map_setIfInBounds]
theorem splice_mem {Q:Value→Prop} (vs:List Value) (hv:∀ x∈vs,Q x):∀ (c:Array Value) (o:Nat),(∀ x∈c,Q x)→∀ x∈splice c o vs,Q x:=by
 induction vs with
 | nil=>intro c o hc;exact hc
 | cons v vs ih =>
  intro c o hc
  refine ih (fun x hx=>hv x (List.mem_cons_of_mem _ hx)) _ _ (fun x hx=>?_)
  rcases Array.mem_or_eq_of_mem_setIfInBounds hx with h|h
  ·exact hc x h
  ·exact h▸hv v (by simp)

theorem run_store_scal {x:Addr} {v u:Value} (hv:scal v=true) {W:World} (hu:W.cell? x=some u) (hf:W.frozen? x=false):(store x v).run P W=.ok () (W.setCell x v):=by
 unfold store
 cases v with
 | agg _=>simp [scal] at hv
 | tuple _=>simp [scal] at hv
 | _=>simp [Sem.run,hu,hf]

theorem run_storeCells_blk {b:Nat} {T:TypeId} (vs:List Value) (h1:∀ v∈vs,scal v=true):∀ (c:Array Value) (o i:Nat) (W:World),W.heap[b]? = some (.cells c T (0,0))→o+i+vs.length≤c.size →
  (storeCells ⟨b,o,none⟩ vs i).run P W=.ok () (W.putObj b (.cells (splice c (o+i) vs) T (0,0))):=by
 induction vs with
 | nil =>
  intro c o i W hb _
  obtain ⟨hlt,he⟩:=Array.getElem?_eq_some_iff.1 hb
  have:W.putObj b (.cells c T (0,0))=W:=by
   unfold World.putObj
   have:W.heap.setIfInBounds b (.cells c T (0,0))=W.heap:=by
    apply Array.ext_getElem?
    intro k
    by_cases e:b=k
    ·subst e;simp [he,hlt]
    ·simp [Array.getElem?_setIfInBounds_ne e]
   rw [this]
  simp [storeCells,splice,this]
 | cons v vs ih =>
  intro c o i W hb hle
  simp only [List.length_cons] at hle
  obtain ⟨hlt,he⟩:=Array.getElem?_eq_some_iff.1 hb
  have hcell:(W.cell? ⟨b,o+i,none⟩).isSome=true:=by
   rw [cell_of_row W b (o+i) _ _ _ hb];simp;omega
  obtain ⟨u,hu⟩:=Option.isSome_iff_exists.1 hcell
  have hfr:W.frozen? ⟨b,o+i,none⟩=false:=by simp [World.frozen?,hb]
  have hv:=h1 v (by simp)
  have hset:W.setCell ⟨b,o+i,none⟩ v=W.putObj b (.cells (c.setIfInBounds (o+i) v) T (0,0)):=by
   unfold World.setCell World.putObj
   congr 1
   apply Array.ext_getElem?
   intro k
   by_cases e:b=k
   ·subst e;rw [Array.getElem?_modify,if_pos rfl,hb];simp [hlt]
   ·simp [Array.getElem?_modify,e,Array.getElem?_setIfInBounds_ne e]
  have hst:(store ⟨b,o+i,none⟩ v).run P W=.ok () (W.putObj b (.cells (c.setIfInBounds (o+i) v) T (0,0))):=by
   rw [←hset]
   exact run_store_scal hv hu hfr
  have hb':(W.putObj b (.cells (c.setIfInBounds (o+i) v) T (0,0))).heap[b]? = some (.cells (c.setIfInBounds (o+i) v) T (0,0)):=World.putObj_heap_same hlt
  have:=ih (fun x hx=>h1 x (List.mem_cons_of_mem _ hx)) (c.setIfInBounds (o+i) v) o (i+1) _ hb' (by simp;omega)
  simp only [storeCells,Sem.run_bind,Addr.add_mid,hst,Result.andThen_ok,this]
  simp only [splice,World.putObj]
  congr 2
  ·simp [Nat.add_assoc]

def cellsOf (v:Value):Array Value:=v.cells
theorem cells_ren {v:Value} (h:∀ vs,v≠.tuple vs):(ren r v).cells=v.cells.map (renF r):=by
 cases v with
 | agg cs=>simp [ren,renA,Value.cells]
 | tuple vs=>exact absurd rfl (h vs)
 | pointer p=>cases p<;>simp [ren,renA,renF,ren0,Value.cells]
 | slice p _ _=>cases p<;>simp [ren,renA,renF,ren0,Value.cells]
 | map p=>cases p<;>simp [ren,renA,renF,ren0,Value.cells]
 | _=>simp [ren,renA,renF,ren0,Value.cells]
theorem cells_ids {v:Value} (h:∀ vs,v≠.tuple vs) (hv:idsV D v):∀ x∈v.cells,idsF D x:=by
 cases v with
 | agg cs=>exact hv
 | tuple vs=>exact absurd rfl (h vs)
 | _=>intro x hx;simp [Value.cells] at hx;subst hx;exact hv

def okCells:Value→Bool
 | .tuple _=>false
 | .agg cs=>cs.all scal
 | .complex _ _ _=>false
 | _=>true
theorem okCells_nt {v:Value} (h:okCells v=true):∀ vs,v≠.tuple vs:=by intro vs e;rw [e] at h;simp [okCells] at h
theorem okCells_scal {v:Value} (h:okCells v=true):∀ x∈v.cells,scal x=true:=by
 cases v with
 | agg cs=>exact fun x hx=>Array.all_eq_true_iff_forall_mem.1 h x hx
 | tuple vs=>simp [okCells] at h
 | _=>intro x hx;simp [Value.cells] at hx;subst hx;simp_all [scal,okCells]

theorem run_storeVar_blk {T:TypeId} {c:Array Value} {off:Nat} {v:Value} (hv:okCells v=true) (hs:tySize P T=some v.cells.size) (hle:off+v.cells.size≤c.size) {W:World} {b:Nat} {T':TypeId}
  (hb:W.heap[b]? = some (.cells (c.map (renF r)) T' (0,0))) :
  (storeVar T ⟨b,off,none⟩ (ren r v)).run P W=.ok () (W.putObj b (.cells ((splice c off v.cells.toList).map (renF r)) T' (0,0))):=by
 have hc:=cells_ren (r:=r) (okCells_nt hv)
 have:=run_storeCells_blk (P:=P) (T:=T') (b:=b) (v.cells.map (renF r)).toList (fun x hx=>by
  simp only [Array.toList_map,List.mem_map] at hx
  obtain ⟨y,hy,rfl⟩:=hx
  exact renF_scal (okCells_scal hv y (by simpa using hy))) (c.map (renF r)) off 0 W hb (by simpa using hle)
 simp only [Nat.add_zero] at this
 rw [splice_map]
 simp only [Array.toList_map] at this
 simp [storeVar,Sem.run_bind,run_sizeOf hs,hc,this]
end

def bitI (op:BinOp) (k:IntKind) (a b:Int):Int :=
 match op with
 | .and=>k.wrap (BitVec.ofInt k.bits a &&& BitVec.ofInt k.bits b).toNat
 | .or=>k.wrap (BitVec.ofInt k.bits a ||| BitVec.ofInt k.bits b).toNat
 | .xor=>k.wrap (BitVec.ofInt k.bits a ^^^ BitVec.ofInt k.bits b).toNat
 | _=>k.wrap (BitVec.ofInt k.bits a &&& ~~~ BitVec.ofInt k.bits b).toNat

def int2 (op:BinOp) (k:IntKind) (a:Int) (k':IntKind) (b:Int):Option Value :=
 match op with
 | .shl=>if 0≤b then some (.int k (k.wrap (a*2^min b.toNat k.bits))) else none
 | .shr=>if 0≤b then some (.int k (a.fdiv (2^min b.toNat k.bits))) else none
 | .add=>if k=k' then some (.int k (k.wrap (a+b))) else none
 | .sub=>if k=k' then some (.int k (k.wrap (a - b))) else none
 | .mul=>if k=k' then some (.int k (k.wrap (a*b))) else none
 | .quo=>if k=k' then if b=0 then none else some (.int k (k.wrap (a.tdiv b))) else none
 | .rem=>if k=k' then if b=0 then none else some (.int k (a.tmod b)) else none
 | .and=>if k=k' then some (.int k (bitI .and k a b)) else none
 | .or=>if k=k' then some (.int k (bitI .or k a b)) else none
 | .xor=>if k=k' then some (.int k (bitI .xor k a b)) else none
 | .andNot=>if k=k' then some (.int k (bitI .andNot k a b)) else none
 | .eql=>if k=k' then some (.bool (a==b)) else none
 | .neq=>if k=k' then some (.bool (a != b)) else none
 | .lss=>if k=k' then some (.bool (a<b)) else none
 | .leq=>if k=k' then some (.bool (a≤b)) else none
 | .gtr=>if k=k' then some (.bool (b<a)) else none
 | .geq=>if k=k' then some (.bool (b≤a)) else none

def eqIA:List Value→List Value→Option Bool
 | [],[]=>some true
 | .int k a::xs,.int k' b::ys=>if k=k' then match eqIA xs ys with
  | some r=>some (a==b&&r)
  | none=>none
  else none
 | _,_=>none

def boolT (P:Program) (T:TypeId):Bool:=match P.underlying T with|some .bool=>true|_=>false
def arrT (P:Program) (T:TypeId):Option Nat :=
 match P.underlying T with
 | some (.array n e)=>match P.underlying e with
  | some (.int _)=>match tySize P e with
   | some 1=>if P.eqGuardType P.depth T then none else some n
   | _=>none
  | _=>none
 | _=>none

def arr2 (P:Program) (T:TypeId) (xs ys:Array Value):Option Bool :=
 match arrT P T with
 | some n=>if xs.size=n∧ys.size=n then eqIA xs.toList ys.toList else none
 | none=>none

def arrF (P:Program) (T:TypeId):Option Nat :=
 match arrT P T,tySize P T,tyAgg P T with
 | some n,some m,some true=>if m=n then some n else none
 | _,_,_=>none
def intF (P:Program) (T:TypeId):Bool :=
 match P.underlying T,tyAgg P T with
 | some (.int _),some false=>true
 | _,_=>false
def fldE (P:Program) (T off:Nat) (xs ys:Array Value):Option Bool :=
 match arrF P T with
 | some n=>if off+n≤xs.size∧off+n≤ys.size then arr2 P T (xs.extract off (off+n)) (ys.extract off (off+n)) else none
 | none=>if intF P T=true then match xs[off]?,ys[off]? with
   | some (.int k a),some (.int k' b)=>if k=k' then some (a==b) else none
   | _,_=>none
  else none
def eqFs (P:Program) (xs ys:Array Value):List (TypeId×Nat)→Option Bool
 | []=>some true
 | f::fs=>match fldE P f.1 f.2 xs ys,eqFs P xs ys fs with
  | some a,some b=>some (a&&b)
  | _,_=>none
def structT (P:Program) (T:TypeId):Option (List (TypeId×Nat)) :=
 match P.underlying T with
 | some (.struct fs) => if P.stoodInHeld T || P.eqGuardType P.depth T || fs.toList.any (fun f => f.name == "_") then none else some (fs.toList.map fun f => (f.type, f.offset))
 | _=>none
def agg2S (P:Program) (T:TypeId) (n:Option Nat) (st:Option (List (TypeId×Nat))) (xs ys:Array Value):Option Bool :=
 match n with
 | some _=>arr2 P T xs ys
 | none=>match st with
  | some l=>if (xs.all flatF&&ys.all flatF)=true then eqFs P xs ys l else none
  | none=>none
def agg2 (P:Program) (T:TypeId) (xs ys:Array Value):Option Bool:=agg2S P T (arrT P T) (structT P T) xs ys
def sliceT (P:Program) (T:TypeId):Bool:=match P.underlying T with|some (.slice _)=>true|_=>false
def bin2 (P:Program) (op:BinOp) (T:TypeId) (x y:Value):Option Value :=
 match x,y with
 | .int k a,.int k' b=>int2 op k a k' b
 | .bool a,.bool b=>match op with
  | .eql=>if boolT P T then some (.bool (a==b)) else none
  | .neq=>if boolT P T then some (.bool (a != b)) else none
  | _=>none
 | .agg xs,.agg ys=>match op with
  | .eql=>match agg2 P T xs ys with
   | some r=>some (.bool r)
   | none=>none
  | .neq=>match agg2 P T xs ys with
   | some r=>some (.bool (!r))
   | none=>none
  | _=>none
 | .slice p _ _,.slice none 0 0=>match op with
  | .eql=>if sliceT P T then some (.bool p.isNone) else none
  | .neq=>if sliceT P T then some (.bool (!p.isNone)) else none
  | _=>none
 | _,_=>none

def un1 (op:UnOp) (x:Value):Option Value :=
 match op,x with
 | .neg,.int k a=>some (.int k (k.wrap (0 - a)))
 | .xor,.int k a=>some (.int k (bitI .xor k (if k.signed then -1 else k.max) a))
 | .not,.bool b=>some (.bool !b)
 | _,_=>none

def conv1 (P:Program) (src dst:TypeId) (x:Value):Option Value :=
 match P.underlying src,P.underlying dst,x with
 | some _,some (.int k),.int _ n=>some (.int k (k.wrap n))
 | _,_,_=>none

section
variable {P:Program}

theorem int2_sound {op:BinOp} {T:TypeId} {k k':IntKind} {a b:Int} {v:Value} (h:int2 op k a k' b=some v) (W:World) :
  (binOp op T (.int k a) (.int k' b)).run P W=.ok v W∧flatV v=true:=by
 cases op<;>simp only [int2] at h
 case shl =>
  split at h
  ·cases h;rename_i hb
   refine ⟨?_,rfl⟩
   have:¬b<0:=by omega
   simp [binOp,Op.shift,this]
  ·cases h
 case shr =>
  split at h
  ·cases h;rename_i hb
   refine ⟨?_,rfl⟩
   have:¬b<0:=by omega
   simp [binOp,Op.shift,this]
  ·cases h
 case quo =>
  split at h
  ·split at h
   ·cases h
   ·cases h;rename_i hk hb;subst hk
    exact ⟨by simp [binOp,Op.intDiv,hb],rfl⟩
  ·cases h
 case rem =>
  split at h
  ·split at h
   ·cases h
   ·cases h;rename_i hk hb;subst hk
    exact ⟨by simp [binOp,Op.intDiv,hb],rfl⟩
  ·cases h
 all_goals
  split at h
  ·cases h;rename_i hk;subst hk
   exact ⟨by simp [binOp,Op.intArith,Op.intBits,Op.intCmp,bitI],rfl⟩
  ·cases h

theorem run_part1 {e:TypeId} {kk:IntKind} (hu:P.underlying e=some (.int kk)) {cs:Array Value} {i:Nat} {v:Value} (h:cs[i]? = some v) (W:World):(part e cs (i*1)).run P W=.ok v W:=by
 have ha:(isAgg e).run P W=.ok false W:=run_isAgg (by simp [tyAgg,hu]) W
 simp [part,ha,h]

theorem run_eqItems_int {d:Nat} {e:TypeId} {kk:IntKind} (hu:P.underlying e=some (.int kk)) (W:World):∀ (m j:Nat) (xs ys:Array Value) (r:Bool),j+m=xs.size→j+m=ys.size→eqIA (xs.toList.drop j) (ys.toList.drop j)=some r →
  (Op.eqItems (d+1) e 1 xs ys (List.range' j m)).run P W=.ok r W
 | 0,j,xs,ys,r,hx,hy,h=>by
  rw [List.drop_eq_nil_of_le (by simp;omega),List.drop_eq_nil_of_le (by simp;omega)] at h
  simp only [eqIA,Option.some.injEq] at h
  subst h
  simp [Op.eqItems]
 | m+1,j,xs,ys,r,hx,hy,h=>by
  have hjx:j<xs.size:=by omega
  have hjy:j<ys.size:=by omega
  rw [List.drop_eq_getElem_cons (l:=xs.toList) (by simpa using hjx),List.drop_eq_getElem_cons (l:=ys.toList) (by simpa using hjy)] at h
  have gx:xs[j]? = some xs[j]:=Array.getElem?_eq_getElem hjx
  have gy:ys[j]? = some ys[j]:=Array.getElem?_eq_getElem hjy
  simp only [Array.getElem_toList] at h
  generalize xs[j]=x at *
  generalize ys[j]=y at *
  unfold eqIA at h
  split at h
  ·rename_i e1 _;cases e1
  ·rename_i k a xs' k' b ys' e1 e2
   simp only [List.cons.injEq] at e1 e2
   obtain ⟨rfl,rfl⟩:=e1
   obtain ⟨rfl,rfl⟩:=e2
   split at h
   ·rename_i hk;subst hk
    split at h
    ·rename_i q hq
     cases h
     have hrec:=run_eqItems_int (d:=d) hu W m (j+1) xs ys q (by omega) (by omega) hq
     have heq:(Op.equalIn (d+1) e (.int k a) (.int k b)).run P W=.ok (a==b) W:=by simp [Op.equalIn,run_underlying hu]
     simp only [List.range'_succ,Op.eqItems,Sem.run_bind,run_part1 hu gx,run_part1 hu gy,Result.andThen_ok,heq]
     cases hab:a==b
     ·simp
     ·simpa using hrec
    ·cases h
   ·cases h
  ·cases h

theorem arr2_sound {T:TypeId} {xs ys:Array Value} {r:Bool} (d:Nat) (h:arr2 P T xs ys=some r) (W:World):(Op.equalIn (d+2) T (.agg xs) (.agg ys)).run P W=.ok r W∧P.eqGuardType P.depth T=false:=by
 unfold arr2 at h
 split at h
 ·rename_i n hn
  split at h
  ·rename_i hs
   unfold arrT at hn
   split at hn
   ·rename_i m e hu
    split at hn
    ·rename_i kk hue
     split at hn
     ·rename_i hsz
      split at hn
      ·cases hn
      ·rename_i hg
       cases hn
       refine ⟨?_,by simpa using hg⟩
       unfold tySize at hsz
       cases hi:P.info? e with
       | none=>simp [hi] at hsz
       | some i =>
        have hi1:i.size=1:=by simpa [hi] using hsz
        have hc:P.cellsOf e=1:=by simp [Program.cellsOf,hi,hi1]
        rw [run_equalIn_array W (d+1) xs ys hu hi,hc,List.range_eq_range']
        exact run_eqItems_int (d:=d) hue W _ 0 xs ys r (by omega) (by omega) (by simpa using h)
     ·cases hn
    ·cases hn
   ·cases hn
  ·cases h
 ·cases h

theorem run_partA {T:TypeId} {m off:Nat} {xs:Array Value} (h1:tyAgg P T=some true) (h2:tySize P T=some m) (h:off+m≤xs.size) (W:World):(part T xs off).run P W=.ok (.agg (xs.extract off (off+m))) W:=by
 have ha:=run_isAgg h1 W
 have hs:=run_sizeOf h2 W
 simp [part,ha,hs,h]
theorem run_partI {T:TypeId} {off:Nat} {xs:Array Value} {v:Value} (h1:tyAgg P T=some false) (h:xs[off]? = some v) (W:World):(part T xs off).run P W=.ok v W:=by
 have ha:=run_isAgg h1 W
 simp [part,ha,h]
theorem fldE_sound {T off:Nat} {xs ys:Array Value} {r:Bool} (d:Nat) (h:fldE P T off xs ys=some r) (W:World) :
  ∃ a b,(part T xs off).run P W=.ok a W∧(part T ys off).run P W=.ok b W∧(Op.equalIn (d+2) T a b).run P W=.ok r W:=by
 unfold fldE at h
 split at h
 ·rename_i n hn
  split at h
  ·rename_i hs
   unfold arrF at hn
   split at hn
   ·rename_i n' m h1 h2 h3
    split at hn
    ·rename_i e
     cases hn
     subst e
     exact ⟨_,_,run_partA h3 h2 hs.1 W,run_partA h3 h2 hs.2 W,(arr2_sound d h W).1⟩
    ·cases hn
   ·cases hn
  ·cases h
 ·split at h
  ·rename_i hi
   unfold intF at hi
   split at hi
   ·rename_i kk h1 h2
    split at h
    ·rename_i k a k' b e1 e2
     split at h
     ·rename_i e;subst e
      cases h
      exact ⟨_,_,run_partI h2 e1 W,run_partI h2 e2 W,by simp [Op.equalIn,run_underlying h1]⟩
     ·cases h
    ·cases h
   ·cases hi
  ·cases h
theorem eqFs_sound {xs ys : Array Value} (d : Nat) (W : World) : ∀ (fs : List Field) (r : Bool), (∀ f ∈ fs, f.name ≠ "_") → eqFs P xs ys (fs.map fun f => (f.type, f.offset)) = some r → (Op.eqFields (d + 2) xs ys fs).run P W = .ok r W
 | [],r,_,h=>by
  simp only [List.map_nil,eqFs,Option.some.injEq] at h
  subst h;rfl
 | f::fs,r,hn,h=>by
  simp only [List.map_cons,eqFs] at h
  split at h
  ·rename_i a b ha hb
   cases h
   obtain ⟨x,y,p1,p2,p3⟩:=fldE_sound d ha W
   have ih:=eqFs_sound d W fs b (fun g hg=>hn g (List.mem_cons_of_mem _ hg)) hb
   have hnf:=hn f (by simp)
   cases a
   ·simp [Op.eqFields,hnf,p1,p2,p3]
   ·simp [Op.eqFields,hnf,p1,p2,p3,ih]
  ·cases h
theorem agg2_sound {T:TypeId} {xs ys:Array Value} {r:Bool} (h:agg2 P T xs ys=some r) (W:World):(Op.equal T (.agg xs) (.agg ys)).run P W=.ok r W∧P.eqGuardType P.depth T=false:=by
 unfold agg2 agg2S at h
 split at h
 ·exact arr2_sound 9998 h W
 ·split at h
  ·rename_i l hl
   split at h
   ·unfold structT at hl
    split at hl
    ·rename_i fs hu
     split at hl
     ·cases hl
     ·rename_i hc
      cases hl
      simp only [Bool.or_eq_true,not_or,Bool.not_eq_true] at hc
      have hfo:P.fieldsOf T=fs:=by unfold Program.fieldsOf;rw [hu]
      refine ⟨?_,hc.1.2⟩
      have e:=run_equalIn_struct (P:=P) W 9999 T xs ys (by rw [hfo];exact hu) hc.1.1
      rw [hfo] at e
      have:=eqFs_sound 9997 W fs.toList r (fun f hf hn=>by
       have:=List.any_eq_false.1 hc.2 f hf
       simp [hn] at this) h
      exact e.trans this
    ·cases hl
   ·cases h
  ·cases h
theorem bin2_sound {op:BinOp} {T:TypeId} {x y:Value} {ox oy:Operand} {v:Value} (h:bin2 P op T x y=some v) (W:World) :
  (do eqGuard op T ox oy x y;binOp op T x y).run P W=.ok v W∧flatV v=true:=by
 unfold bin2 at h
 split at h
 ·rename_i k a k' b
  have h1:=int2_sound (P:=P) (T:=T) h W
  refine ⟨?_,h1.2⟩
  have hg:(eqGuard op T ox oy (.int k a) (.int k' b)).run P W=.ok () W:=by unfold eqGuard;split<;>rfl
  simp only [Sem.run_bind,hg,Result.andThen_ok,h1.1]
 ·rename_i a b
  have hg:(eqGuard op T ox oy (.bool a) (.bool b)).run P W=.ok () W:=by unfold eqGuard;split<;>rfl
  split at h
  ·split at h
   ·rename_i hb
    cases h
    have hu:P.underlying T=some .bool:=by unfold boolT at hb;split at hb<;>simp_all
    exact ⟨by simp only [Sem.run_bind,hg,Result.andThen_ok,binOp,run_equal_bool W T a b hu,Sem.run_pure],rfl⟩
   ·cases h
  ·split at h
   ·rename_i hb
    cases h
    have hu:P.underlying T=some .bool:=by unfold boolT at hb;split at hb<;>simp_all
    exact ⟨by simp only [Sem.run_bind,hg,Result.andThen_ok,binOp,run_equal_bool W T a b hu,Sem.run_pure];cases a<;>cases b<;>rfl,rfl⟩
   ·cases h
  ·cases h
 ·rename_i xs ys
  split at h
  ·split at h
   ·rename_i r hr
    cases h
    have h1:=agg2_sound hr W
    have hg:(eqGuard .eql T ox oy (.agg xs) (.agg ys)).run P W=.ok () W:=by simp [eqGuard,h1.2]
    exact ⟨by simp [Sem.run_bind,hg,binOp,h1.1],rfl⟩
   ·cases h
  ·split at h
   ·rename_i r hr
    cases h
    have h1:=agg2_sound hr W
    have hg:(eqGuard .neq T ox oy (.agg xs) (.agg ys)).run P W=.ok () W:=by simp [eqGuard,h1.2]
    exact ⟨by simp [Sem.run_bind,hg,binOp,h1.1],rfl⟩
   ·cases h
  ·cases h
 ·rename_i p l c
  have hg:(eqGuard op T ox oy (.slice p l c) (.slice none 0 0)).run P W=.ok () W:=by unfold eqGuard;split<;>rfl
  split at h
  ·split at h
   ·rename_i hs
    cases h
    unfold sliceT at hs
    split at hs
    ·rename_i e hu
     exact ⟨by simp only [Sem.run_bind,hg,Result.andThen_ok,binOp,run_equal_slice_nil W T e p l c hu,Sem.run_pure],rfl⟩
    ·cases hs
   ·cases h
  ·split at h
   ·rename_i hs
    cases h
    unfold sliceT at hs
    split at hs
    ·rename_i e hu
     exact ⟨by simp only [Sem.run_bind,hg,Result.andThen_ok,binOp,run_equal_slice_nil W T e p l c hu,Sem.run_pure],rfl⟩
    ·cases hs
   ·cases h
  ·cases h
 ·cases h

theorem un1_sound {op:UnOp} {x v:Value} (h:un1 op x=some v) (W:World):(Op.unary op x).run P W=.ok v W∧flatV v=true:=by
 unfold un1 at h
 split at h
 ·cases h;exact ⟨by simp [Op.unary,Op.intArith],rfl⟩
 ·cases h;exact ⟨by simp [Op.unary,Op.intBits,bitI],rfl⟩
 ·cases h;exact ⟨by simp [Op.unary],rfl⟩
 ·cases h

theorem conv1_sound {src dst:TypeId} {x v:Value} (h:conv1 P src dst x=some v) (W:World):(convert src dst x).run P W=.ok v W∧flatV v=true:=by
 unfold conv1 at h
 split at h
 ·rename_i u k kk m hs hd
  cases h
  refine ⟨?_,rfl⟩
  unfold convert
  simp only [Sem.run_bind,run_underlying hs,run_underlying hd,Result.andThen_ok]
  cases u<;>simp [Conv.intToInt]
 ·cases h
end
def mpC (l:List (ByteArray×Value)):Array Value:=(l.flatMap fun p=>[Value.string p.1,p.2]).toArray
def mpB (l:List (ByteArray×Value)):Blk:=⟨mpC l,.mp⟩
def unMC:List Value→Option (List (ByteArray×Value))
 | []=>some []
 | .string s::v::l=>(unMC l).map ((s,v)::·)
 | _=>none
def mpOf (b:Blk):Option (List (ByteArray×Value)):=match b.T with
 | .mp=>unMC b.c.toList
 | _=>none
theorem unMC_eq:∀ l:List (ByteArray×Value),unMC (l.flatMap fun p=>[Value.string p.1,p.2])=some l
 | []=>rfl
 | p::l=>by simp [unMC,unMC_eq l]
theorem unMC_inv:∀ (cs:List Value) (l:List (ByteArray×Value)),unMC cs=some l→cs=l.flatMap fun p=>[Value.string p.1,p.2]
 | [],l,h=>by simp [unMC] at h;subst h;rfl
 | [v],l,h=>by cases v<;>simp [unMC] at h
 | k::v::cs,l,h=>by
  cases k with
  | string s =>
   simp only [unMC,Option.map_eq_some_iff] at h
   obtain ⟨l',h1,rfl⟩:=h
   rw [unMC_inv cs l' h1];simp
  | _=>simp [unMC] at h
theorem mpOf_mpB (l:List (ByteArray×Value)):mpOf (mpB l)=some l:=by simp [mpOf,mpB,mpC,unMC_eq]
theorem mpOf_inv {b:Blk} {l:List (ByteArray×Value)} (h:mpOf b=some l):b=mpB l:=by
 obtain ⟨c,T⟩:=b
 cases T with
 | mp =>
  simp only [mpOf] at h
  unfold mpB mpC
  rw [←unMC_inv _ _ h]
 | _=>simp [mpOf] at h
def findL (s:ByteArray):List (ByteArray×Value)→Option Value
 | []=>none
 | p::l=>if (s==p.1)=true then some p.2 else findL s l
def entL (r:Nat→Nat):List (ByteArray×Value)→Nat→List MapEntry
 | [],_=>[]
 | p::l,i=>⟨.string p.1,renF r p.2,i⟩::entL r l (i+1)
theorem entL_len (r:Nat→Nat):∀ (l:List (ByteArray×Value)) (i:Nat),(entL r l i).length=l.length
 | [],_=>rfl
 | p::l,i=>by simp [entL,entL_len r l]
theorem mpL_ent (r:Nat→Nat):∀ (l:List (ByteArray×Value)) (i:Nat),mpL ((l.flatMap fun p=>[Value.string p.1,p.2]).map (renF r)) i=entL r l i
 | [],_=>rfl
 | p::l,i=>by
  simp only [List.flatMap_cons,List.cons_append,List.nil_append,List.map_cons,mpL,entL,mpL_ent r l]
  rfl
theorem mpB_obj (r:Nat→Nat) (l:List (ByteArray×Value)):(mpB l).obj r=.map (entL r l 0).toArray l.length:=by
 unfold Blk.obj mpB mpObj mpC
 simp only [List.map_toArray,mpL_ent,entL_len]
theorem entL_app (r:Nat→Nat) (q:ByteArray×Value):∀ (l:List (ByteArray×Value)) (i:Nat),entL r (l++[q]) i=entL r l i++[⟨.string q.1,renF r q.2,i+l.length⟩]
 | [],i=>by simp [entL]
 | p::l,i=>by simp only [List.cons_append,entL,entL_app r q l,List.length_cons];rw [show i+1+l.length=i+(l.length+1) by omega]
theorem find_none (r:Nat→Nat) (s:ByteArray):∀ (l:List (ByteArray×Value)) (i j:Nat),findL s l=none→Instr.findNow .string (.string s) (entL r l i) j=some none
 | [],_,_,_=>rfl
 | p::l,i,j,h=>by
  simp only [findL] at h
  split at h
  ·cases h
  ·rename_i hc
   simp only [entL,Instr.findNow,Instr.sameNow]
   rw [show (s==p.1)=false by simpa using hc]
   exact find_none r s l (i+1) (j+1) h
theorem find_some (r:Nat→Nat) (s:ByteArray) {v:Value}:∀ (l:List (ByteArray×Value)) (i j:Nat),findL s l=some v→∃ k,Instr.findNow .string (.string s) (entL r l i) j=some (some (k,renF r v))
 | [],_,_,h=>by cases h
 | p::l,i,j,h=>by
  simp only [findL] at h
  split at h
  ·rename_i hc
   cases h
   simp only [entL,Instr.findNow,Instr.sameNow,hc]
   exact ⟨j,rfl⟩
  ·rename_i hc
   simp only [entL,Instr.findNow,Instr.sameNow]
   rw [show (s==p.1)=false by simpa using hc]
   exact find_some r s l (i+1) (j+1) h
def strMap (P:Program) (T:TypeId):Bool:=match P.underlying T with
 | some (.map kt _)=>(match P.underlying kt with|some .string=>true|_=>false)
 | _=>false
theorem strMap_of {P:Program} {T:TypeId} (h:strMap P T=true):∃ kt e,P.underlying T=some (.map kt e)∧P.underlying kt=some .string:=by
 unfold strMap at h
 split at h
 ·rename_i kt e hk
  split at h
  ·rename_i hs;exact ⟨kt,e,hk,hs⟩
  ·cases h
 ·cases h
section
variable {P:Program} {T:TypeId} {W:World} {k:Nat} {s:ByteArray} {r:Nat→Nat} {l:List (ByteArray×Value)}
theorem run_insert (hT:strMap P T=true) (hk:W.heap[k]? = some ((mpB l).obj r)) (hf:findL s l=none) {x v:Value} (hx:x=renF r v):(Instr.mapUpdate T (.map (some k)) (.string s) x).run P W=.ok () (W.putObj k ((mpB (l++[(s,v)])).obj r)):=by
 obtain ⟨kt,e,h1,h2⟩:=strMap_of hT
 rw [mpB_obj] at hk ⊢
 have hfn:(Instr.findKey kt (.string s) (entL r l 0).toArray.toList).run P W=.ok none W:=MapKept.run_findKey h2 (find_none r s l 0 0 hf)
 subst hx
 unfold Instr.mapUpdate
 simp only [Sem.run_bind,run_underlying h1,Result.andThen_ok,MapKept.run_getObj_map hk,MapKept.run_checkKey h2 (k:=.string s) trivial false 9999,hfn,MapKept.run_setObj_map _ hk]
 simp [World.putObj,entL_app]
theorem run_lookup (hT:strMap P T=true) (hk:W.heap[k]? = some ((mpB l).obj r)) {v:Value} (hf:findL s l=some v):(Instr.lookup T (.map (some k)) (.string s) false).run P W=.ok (renF r v) W:=by
 obtain ⟨kt,e,h1,h2⟩:=strMap_of hT
 rw [mpB_obj] at hk
 obtain ⟨q,hq⟩:=find_some r s l 0 0 hf
 have hfn:(Instr.findKey kt (.string s) (entL r l 0).toArray.toList).run P W=.ok (some (q,renF r v)) W:=MapKept.run_findKey h2 hq
 unfold Instr.lookup
 simp only [Sem.run_bind,run_underlying h1,Result.andThen_ok,MapKept.run_getObj_map hk,Sem.run_pure,MapKept.run_checkKey h2 (k:=.string s) trivial _ 9999,hfn]
 simp
end

def val (v:Value) (rs:List Nat):Eff:=⟨v,rs,[],[],none,false⟩
def gptr (k:Nat):Value:=.pointer (some ⟨k,0,none⟩)

def GFlat (G:Hp):Prop:=∀ k b,G k=some b→k<100∧∀ x∈b.c,flatF x=true

inductive Out
 | ret (v:Value)
 | pan (v:Value)
def Out.eff:Out→Eff
 | .ret v=>val v []
 | .pan v=>⟨junk,[],[],[],some v,false⟩
def Out.holds (W:World):Out→Ending→World→Prop
 | .ret v,e,W'=>e=.returned v∧Below W.heap.size W W'
 | .pan v,e,W'=>e=.panicked [{ v:=v,recovered:=false }]∧Below W.heap.size W W'

def Ret (P:Program) (G:Hp) (f:FuncId) (args:Array Value) (v:Value):Prop :=
 flatV v=true∧(∀ x∈args,flatV x=true)∧(∀ a w,(callFunc f a).run P w=.ok (.enter f a) w) ∧
  ∀ W,GOK G W→CallsS P f args W fun e W'=>e=.returned v∧Below W.heap.size W W'
def RetV (P:Program) (f:FuncId) (args:Array Value) (v:Value):Prop:=flatV v=true∧(∀ x∈args,flatV x=true)∧∀ w,(callFunc f args).run P w=.ok (.value v) w
def RetP (P:Program) (G:Hp) (f:FuncId) (args:Array Value) (o:Out):Prop :=
 (∀ v,o=.ret v→flatV v=true)∧(∀ x∈args,flatV x=true)∧(∀ a w,(callFunc f a).run P w=.ok (.enter f a) w)∧∀ W,GOK G W→CallsS P f args W (o.holds W)
def callP (P:Program) (G:Hp) (f:FuncId) (args:Array Value) (C:Eff→Prop):Prop:=∃ o,RetP P G f args o∧C o.eff
theorem callP_of {P:Program} {G:Hp} {f:FuncId} {args:Array Value} {C:Eff→Prop} {o:Out} (h:RetP P G f args o) (hk:C o.eff):callP P G f args C:=⟨o,h,hk⟩
def callK (P:Program) (G:Hp) (f:FuncId) (args:Array Value) (K:Value→Prop):Prop:=∃ v,(Ret P G f args v∨RetV P f args v)∧K v

inductive Res
 | ret (v:Value) (ws:List (Nat×Blk))
 | pan (v:Value)
 | new (v:Value) (ns:List (Nat×Blk))
def Res.eff (rs:List Nat):Res→Eff
 | .ret v ws=>⟨v,rs,ws,[],none,false⟩
 | .pan v=>⟨junk,rs,[],[],some v,false⟩
 | .new v ns=>⟨v,rs,[],ns,none,false⟩
def Res.holds (r:Nat→Nat) (D:Nat→Prop) (W:World):Res→Ending→World→Prop
 | .new v ns,e,W'=>(∀ k∈keys ns,¬D k)→∃ r',(∀ k,D k→r' k=r k)∧e=.returned (ren r' v)∧Turn r' (extD D ns) W W' [] ns
 | .ret v ws,e,W'=>e=.returned (ren r v)∧Turn r (extD D []) W W' ws []
 | .pan v,e,W'=>e=.panicked [{ v:=v,recovered:=false }]∧Below W.heap.size W W'
def Res.fits (hp:Hp) (rs:List Nat):Res→Prop
 | .ret v ws=>idsV (dom (rst hp rs)) v∧(∀ k∈keys ws,k∈rs∧dom hp k∧100≤k)∧(∀ k b c,(k,b)∈ws→(k,c)∈ws→b=c)∧∀ p∈ws,p.2.ids (dom (rst hp rs))
 | .pan _=>True
 | .new v ns=>idsV (extD (dom (rst hp rs)) ns) v∧(∀ k∈keys ns,100≤k)∧(∀ k b c,(k,b)∈ns→(k,c)∈ns→b=c)

structure Fun (P:Program) (G:Hp) (f:FuncId) (args:Array Value) (hp:Hp) (rs:List Nat) (res:Res):Prop where
 enter:∀ a w,(callFunc f a).run P w=.ok (.enter f a) w
 ids:∀ x∈args,idsV (dom (rst hp rs)) x
 closed:∀ k b,rst hp rs k=some b→b.ids (dom (rst hp rs))
 fits:res.fits hp rs
 run:∀ r W,GOK G W→Sat r (dom (rst hp rs)) (rst hp rs) W→Inj r (dom (rst hp rs))→(∀ k,k<100→dom (rst hp rs) k→r k=k)→CallsS P f (args.map (ren r)) W (res.holds r (dom (rst hp rs)) W)
def Res.at (nk:Nat):Res→Prop
 | .new _ ns=>∀ k∈keys ns,nk≤k∧k<nk+8
 | _=>True
def heapK (P:Program) (G:Hp) (f:FuncId) (args:Array Value) (hp:Hp) (nk:Nat) (K:Eff→Prop):Prop:=∃ hp' rs res,(∀ k∈rs,hp' k=hp k)∧(∀ k,k<100→hp' k=G k)∧Fun P G f args hp' rs res∧res.at nk∧K (res.eff rs)
theorem Fun.under {P:Program} {G:Hp} {f:FuncId} {args:Array Value} {hp hp':Hp} {rs:List Nat} {res:Res} (h:Fun P G f args hp' rs res) (e:∀ k,(k<100∨k∈rs)→hp' k=hp k):Fun P G f args hp rs res:=by
 have er:rst hp' rs=rst hp rs:=rst_congr e
 refine ⟨h.enter,by rw [←er];exact h.ids,by rw [←er];exact h.closed,?_,by rw [←er];exact h.run⟩
 have hf:=h.fits
 cases res with
 | ret v ws =>
  simp only [Res.fits] at hf ⊢
  rw [←er]
  refine ⟨hf.1,fun k hk=>?_,hf.2.2⟩
  have:=hf.2.1 k hk
  exact ⟨this.1,by unfold dom at *;rw [←e k (.inr this.1)];exact this.2.1,this.2.2⟩
 | pan v=>trivial
 | new v ns=>simp only [Res.fits] at hf ⊢;rw [←er];exact hf

structure XV where
 Y:Option YG
 pn:List FuncId
 dr:Bool

def notTup:Value→Bool
 | .tuple _=>false
 | .complex _ _ _=>false
 | _=>true
def plain0:Value→Bool
 | .tuple _=>false
 | .agg _=>false
 | .func _ _ _=>false
 | .iface _ _=>false
 | _=>true
theorem ren_plain0 {r:Nat→Nat} {v:Value} (h:plain0 v=true):ren r v=ren0 r v:=by cases v<;>simp_all [plain0,ren,renA,renF]
theorem ids_plain0 {D:Nat→Prop} {v:Value} (h:plain0 v=true):idsV D v↔ids0 D v:=by cases v<;>simp_all [plain0,idsV,idsA,idsF]

def partsG (ts:Nat→Value) (parts:Array (Nat×Operand)):List (Nat×Value):=parts.toList.map fun p=>(p.1,gev ts p.2)

def placesOf (P:Program) (T:TypeId):Option (List (Nat×Nat) ⊕ Nat) :=
 match P.underlying T with
 | some (.array _ e)=>(tySize P e).map .inr
 | some (.struct fs)=>(fs.toList.mapM fun f=>(P.info? f.type).map fun i=>(f.offset,i.size)).map .inl
 | _=>none
def plAt:List (Nat×Nat) ⊕ Nat→Nat→Option (Nat×Nat)
 | .inl l,i=>l[i]?
 | .inr m,i=>some (i*m,m)
def fillG (pl:List (Nat×Nat) ⊕ Nat) (cells:Array Value):List (Nat×Value)→Option (Array Value)
 | []=>some cells
 | (i,v)::rest =>
  match plAt pl i with
  | none=>none
  | some (off,size)=>if v.cells.size=size∧off+v.cells.size≤cells.size then fillG pl (splice cells off v.cells.toList) rest else none

def hiG (len cap:Nat):Option Value→Option Nat
 | none=>some len
 | some (.int _ m)=>if 0≤m∧m≤cap then some m.toNat else none
 | _=>none
def loG (h:Nat):Option Value→Option Nat
 | none=>some 0
 | some (.int _ m)=>if 0≤m∧m≤h then some m.toNat else none
 | _=>none
def sliceG (len cap:Nat) (lo hi:Option Value):Option (Nat×Nat) :=
 match hiG len cap hi with
 | none=>none
 | some h=>(loG h lo).map fun l=>(l,h)
def slV (a:Option (Nat×Nat)) (s c:Nat):Option (Nat×Nat)→Option Value
 | some (l,h)=>some (.slice (a.map fun p=>⟨p.1,if c=l then p.2 else p.2+l*s,none⟩) (h - l) (c - l))
 | none=>none
def slS (s:ByteArray):Option (Nat×Nat)→Option Value
 | some (l,h)=>some (.string (s.extract l h))
 | none=>none
def slX (P:Program) (T:TypeId) (v:Value) (lo hi:Option Value):Option Value :=
 match P.underlying T with
 | some (.array n e)=>match v with
  | .pointer (some ⟨k,off,none⟩)=>match tySize P e with
   | some s=>slV (some (k,off)) s n (sliceG n n lo hi)
   | none=>none
  | _=>none
 | some (.slice e)=>match v with
  | .slice (some ⟨k,off,none⟩) n c=>match tySize P e with
   | some s=>slV (some (k,off)) s c (sliceG n c lo hi)
   | none=>none
  | .slice none n c=>match tySize P e with
   | some s=>slV none s c (sliceG n c lo hi)
   | none=>none
  | _=>none
 | some .string=>match v with
  | .string s=>slS s (sliceG s.size s.size lo hi)
  | _=>none
 | _=>none
def arrX (P:Program) (T:TypeId) (v:Value):Option Value :=
 match P.underlying T with
 | some (.array n _)=>match v with
  | .slice a len _=>if n≤len then some (.pointer a) else none
  | _=>none
 | _=>none
def lenX (P:Program) (T:TypeId) (v:Value):Option Value :=
 match P.underlying T with
 | some .string=>match v with
  | .string s=>some (.int .i64 s.size)
  | _=>none
 | some (.array n _)=>some (.int .i64 n)
 | some (.slice _)=>match v with
  | .slice _ n _=>some (.int .i64 n)
  | _=>none
 | _=>none
def max2G (b:Bool) (x y:Value):Option Value :=
 match x,y with
 | .int k a,.int _ c=>some (.int k (if b then (if a<c then c else a) else (if c<a then c else a)))
 | _,_=>none
def maxE:Value→Option Value
 | .int k a=>some (.int k a)
 | _=>none
def maxF (b:Bool) (x:Value):List Value→Option Value
 | []=>maxE x
 | y::l=>match max2G b x y with
  | some z=>maxF b z l
  | none=>none
def maxG (b:Bool):List Value→Option Value
 | []=>none
 | x::l=>maxF b x l
def builtX (P:Program) (ts:Nat→Value) (c:Call):Option Value :=
 match c.callee with
 | .builtin .len=>match c.args.toList,c.argTypes.toList with
  | [x],[T]=>lenX P T (gev ts x)
  | _,_=>none
 | .builtin .max=>maxG true (c.args.toList.map (gev ts))
 | .builtin .min=>maxG false (c.args.toList.map (gev ts))
 | _=>none
def fdX (P:Program) (T:TypeId) (f:Nat):Option (TypeId×Nat) :=
 match P.underlying T with
 | some (.struct fs)=>match fs[f]? with
  | some fd=>match tySize P fd.type with
   | some (_+1)=>some (fd.type,fd.offset)
   | _=>none
  | none=>none
 | _=>none

def pureV (P:Program) (o:Oper) (ts:Nat→Value) (hp:Hp) (K:Value→Prop):Prop :=
 (∀ x∈o.op.operands.toList,okX ts hp x∧flatV (gev ts x)=true)∧∃ v,flatV v=true∧(∀ W,(execOp (gev ts) o).run P W=.ok (.value v) W)∧K v

def okT (ts:Nat→Value):Operand→Prop
 | .tmp t=>nj (ts t)
 | .const v=>flatV v=true
 | .func _=>True
 | _=>False
def yEff (y:YG) (yc:Nat):Eff :=
 match y.pan yc with
 | none=>⟨.bool (yc != y.stop),[],[],[],none,true⟩
 | some pv=>⟨junk,[],[],[],some pv,true⟩
def OpY (Y:Option YG) (o:Oper) (ts:Nat→Value) (yc:Nat) (e:Eff):Prop :=
 ∃ y f args T,Y=some y∧o.op=.call ⟨.value f,args,T⟩∧okT ts f∧(∀ x∈args.toList,okT ts x∧flatV (gev ts x)=true)∧gev ts f=.func (.yield y.l) #[] #[]∧yc≤y.stop∧y.xs[yc]? = some (args.map (gev ts)) ∧
  e=yEff y yc
def yieldK (Y:Option YG) (yc l:Nat) (args:Array Value) (C:Eff→Prop):Prop :=
 match Y with
 | some y=>l=y.l∧yc≤y.stop∧y.xs[yc]? = some args∧C (yEff y yc)
 | none=>False

def calleeX (P:Program) (G:Hp) (V:XV) (nk yc:Nat) (ts:Nat→Value) (hp:Hp) (v:Value) (args:Array Operand) (C:Eff→Prop):Prop :=
 match v with
 | .func (.func g) first cap=>first.size=0∧(∀ x∈args.toList,okX ts hp x) ∧
   if cap.size=0∧V.pn.contains g=false∧(args.map (gev ts)).all flatV=true then (if V.pn.contains (g+1000000)=true then callP P G g (args.map (gev ts)) C else callK P G g (args.map (gev ts)) fun v=>C (val v [])) else cap.all plain0=true∧heapK P G g (args.map (gev ts)++cap) hp nk C
 | .func (.yield l) first cap=>first.size=0∧cap.size=0∧(∀ x∈args.toList,okT ts x∧flatV (gev ts x)=true)∧yieldK V.Y yc l (args.map (gev ts)) C
 | _=>False
def callX (P:Program) (G:Hp) (V:XV) (nk yc:Nat) (ts:Nat→Value) (hp:Hp) (c:Call) (C:Eff→Prop):Prop :=
 match c.callee with
 | .value f=>okT ts f∧calleeX P G V nk yc ts hp (gev ts f) c.args C
 | _=>(∀ x∈c.args.toList,okX ts hp x)∧match builtX P ts c with
  | some v=>C (val v [])
  | none=>False

def fnV:Value→Bool
 | .func _ _ _=>true
 | _=>false
def insX1 (b:Option Blk) (k:Nat) (s:ByteArray) (v:Value) (C:Eff→Prop):Prop:=match b.bind mpOf with
 | some l=>findL s l=none∧100≤k∧C ⟨undef,[k],[(k,mpB (l++[(s,v)]))],[],none,false⟩
 | none=>False
def insX (hp:Hp) (m k v:Value) (C:Eff→Prop):Prop:=match m with
 | .map (some q)=>(match k with | .string s=>insX1 (hp q) q s v C|_=>False)
 | _=>False
def lkX1 (b:Option Blk) (k:Nat) (s:ByteArray) (C:Eff→Prop):Prop:=match b.bind mpOf with
 | some l=>(match findL s l with|some v=>fnV v=true∧C (val v [k])|none=>False)
 | none=>False
def lkX (hp:Hp) (m k:Value) (C:Eff→Prop):Prop:=match m with
 | .map (some q)=>(match k with | .string s=>lkX1 (hp q) q s C|_=>False)
 | _=>False
def ncX (v:Value) (C:Eff→Prop):Prop :=
 match v with
 | .pointer (some ⟨k,o,none⟩)=>C (val (.pointer (some ⟨k,o,none⟩)) [])
 | _=>False
def tyB (P:Program) (T:TypeId):Option Nat:=(P.info? T).map (·.bytes)
def msZ (P:Program) (e m nk:Nat) (z:Option Value) (b:Option Nat) (v w:Value) (C:Eff→Prop):Prop :=
 match z,b,v with
 | some z,some b,.int .i64 l=>w=.int .i64 l∧okCells z=true∧flatV z=true∧(0<l∧l≤4096)∧b≤4096∧0<m∧C ⟨.slice (some ⟨nk,0,none⟩) l.toNat l.toNat,[],[],[(nk,⟨(Array.range (l.toNat*m)).map (z.cells[·%z.cells.size]!),e⟩)],none,false⟩
 | _,_,_=>False
def msM (P:Program) (e nk:Nat) (m:Option Nat) (v w:Value) (C:Eff→Prop):Prop :=
 match m with
 | some m=>msZ P e m nk (tyZero P e) (tyB P e) v w C
 | none=>False
def msU (P:Program) (nk:Nat) (u:Option TypeDesc) (v w:Value) (C:Eff→Prop):Prop :=
 match u with
 | some (.slice e)=>msM P e nk (tySize P e) v w C
 | _=>False
def opX (P:Program) (G:Hp) (V:XV) (yc:Nat) (o:Oper) (ts:Nat→Value) (hp:Hp) (nk:Nat) (C:Eff→Prop):Prop :=
 match o.op with
 | .move x=>okX ts hp x∧C (val (gev ts x) [])
 | .assign x=>okX ts hp x∧C (val (gev ts x) [])
 | .pick c x y=>okX ts hp c∧match gev ts c with
  | .bool b=>(b=true→okX ts hp x)∧(b=false→okX ts hp y)∧C (val (if b then gev ts x else gev ts y) [])
  | _=>False
 | .alloc T=>match tyZero P T with
  | some z=>okCells z=true∧flatV z=true∧C ⟨gptr nk,[],[],[(nk,⟨z.cells,T⟩)],none,false⟩
  | none=>False
 | .box T x=>okX ts hp x∧okCells (gev ts x)=true∧C ⟨gptr nk,[],[],[(nk,⟨(gev ts x).cells,T⟩)],none,false⟩
 | .load T x=>okX ts hp x∧match gev ts x with
  | .pointer (some ⟨k,off,none⟩)=>match hp k with
   | some b=>match loadK P T b off with
    | some v=>C (val v [k])
    | none=>False
   | none=>False
  | _=>False
 | .store T x y=>okX ts hp x∧okX ts hp y∧match gev ts x with
  | .pointer (some ⟨k,off,none⟩)=>match hp k with
   | some b=>b.T.own=true∧okCells (gev ts y)=true∧tySize P T=some (gev ts y).cells.size∧off+(gev ts y).cells.size≤b.c.size∧100≤k ∧
     C ⟨undef,[k],[(k,⟨splice b.c off (gev ts y).cells.toList,b.T⟩)],[],none,false⟩
   | none=>False
  | _=>False
 | .extract x i=>okX ts hp x∧match gev ts x with
  | .tuple vs=>match vs[i]? with
   | some v=>notTup v=true∧C (val v [])
   | none=>False
  | _=>False
 | .indexAddr T x i=>okX ts hp x∧okX ts hp i∧match gev ts i with
  | .int _ m=>match P.underlying T with
   | some (.array len e)=>match gev ts x with
    | .pointer (some ⟨k,off,none⟩)=>(0≤m∧m<len)∧match tySize P e with
     | some s=>C (val (.pointer (some ⟨k,off+m.toNat*s,none⟩)) [])
     | none=>False
    | _=>False
   | some (.slice e)=>match gev ts x with
    | .slice (some ⟨k,off,none⟩) len _=>(0≤m∧m<len)∧match tySize P e with
     | some s=>C (val (.pointer (some ⟨k,off+m.toNat*s,none⟩)) [])
     | none=>False
    | _=>False
   | _=>False
  | _=>False
 | .index T x i=>okX ts hp x∧okX ts hp i∧match gev ts i with
  | .int _ m=>match P.underlying T with
   | some (.array len e)=>match gev ts x with
    | .agg cs=>(0≤m∧m<len)∧match tySize P e with
     | some s=>match loadB P e cs (m.toNat*s) with
      | some v=>C (val v [])
      | none=>False
     | none=>False
    | _=>False
   | some .string=>match gev ts x with
    | .string s=>match (if 0≤m then s[m.toNat]? else none) with
     | some b=>C (val (.int .u8 b.toNat) [])
     | none=>False
    | _=>False
   | _=>False
  | _=>False
 | .field T x f=>okX ts hp x∧match fdX P T f with
  | some (t,off)=>match gev ts x with
   | .agg cs=>match loadB P t cs off with
    | some v=>C (val v [])
    | none=>False
   | _=>False
  | none=>False
 | .fieldAddr T x f=>okX ts hp x∧match fdX P T f with
  | some (_,off)=>match gev ts x with
   | .pointer (some ⟨k,o,none⟩)=>C (val (.pointer (some ⟨k,o+off,none⟩)) [])
   | _=>False
  | none=>False
 | .slice T x lo hi mx=>okX ts hp x∧(∀ y∈lo.toList,okX ts hp y)∧(∀ y∈hi.toList,okX ts hp y)∧mx.isNone=true∧match slX P T (gev ts x) (lo.map (gev ts)) (hi.map (gev ts)) with
  | some v=>C (val v [])
  | none=>False
 | .sliceToArrayPointer T x=>okX ts hp x∧match arrX P T (gev ts x) with
  | some v=>C (val v [])
  | none=>False
 | .makeFunc fn first cap=>(∀ x∈first.toList,okX ts hp x∧plain0 (gev ts x)=true)∧(∀ x∈cap.toList,okX ts hp x∧plain0 (gev ts x)=true)∧C (val (.func fn (first.map (gev ts)) (cap.map (gev ts))) [])
 | .build T parts=>(∀ p∈parts.toList,okX ts hp p.2∧okCells (gev ts p.2)=true)∧match tyZero P T with
  | some z=>okCells z=true∧flatV z=true∧match placesOf P T with
   | some pl=>match fillG pl z.cells (partsG ts parts) with
    | some cs=>C (val (.agg cs) [])
    | none=>False
   | none=>False
  | none=>False
 | .buildSlice T len parts=>(∀ p∈parts.toList,okX ts hp p.2∧okCells (gev ts p.2)=true)∧match P.underlying T with
  | some (.slice e)=>match tySize P e with
   | some m=>match tyZero P e with
    | some z=>okCells z=true∧flatV z=true∧0<len*m∧len*m≤16777216∧match fillG (.inr m) ((Array.range (len*m)).map (z.cells[·%z.cells.size]!)) (partsG ts parts) with
     | some cs=>C ⟨.slice (some ⟨nk,0,none⟩) len len,[],[],[(nk,⟨cs,e⟩)],none,false⟩
     | none=>False
    | none=>False
   | none=>False
  | _=>False
 | .makeInterface T x=>okX ts hp x∧plain0 (gev ts x)=true∧match P.underlying T with
  | some (.interface _)=>False
  | some _=>C (val (.iface T (gev ts x)) [])
  | none=>False
 | .binOp op T x y _=>okX ts hp x∧okX ts hp y∧match bin2 P op T (gev ts x) (gev ts y) with
  | some v=>C (val v [])
  | none=>pureV P o ts hp fun v=>C (val v [])
 | .unOp op _ x=>okX ts hp x∧match un1 op (gev ts x) with
  | some v=>C (val v [])
  | none=>False
 | .convert S T x=>okX ts hp x∧match conv1 P S T (gev ts x) with
  | some v=>C (val v [])
  | none=>pureV P o ts hp fun v=>C (val v [])
 | .call c=>callX P G V nk yc ts hp c C
 | .panic x=>okX ts hp x∧flatV (gev ts x)=true∧match gev ts x with
  | .iface T u=>C ⟨junk,[],[],[],some (.iface T u),false⟩
  | _=>False
 | .makeMap _ y=>y.isNone=true∧C ⟨.map (some nk),[],[],[(nk,mpB [])],none,false⟩
 | .insert T m k x=>okX ts hp m∧okX ts hp k∧okX ts hp x∧strMap P T=true∧fnV (gev ts x)=true∧insX hp (gev ts m) (gev ts k) (gev ts x) C
 | .lookup T x i ok=>okX ts hp x∧okX ts hp i∧ok=false∧strMap P T=true∧lkX hp (gev ts x) (gev ts i) C
 | .select _ _=>False
 | .nilCheck x=>okX ts hp x∧ncX (gev ts x) C
 | .makeSlice T x y=>okX ts hp x∧okX ts hp y∧msU P nk (P.underlying T) (gev ts x) (gev ts y) C
 | _=>pureV P o ts hp fun v=>C (val v [])

structure Shape (hp:Hp) (nk:Nat) (e:Eff):Prop where
 ws:∀ k∈keys e.ws,k∈e.rs∧dom hp k∧100≤k
 ns:∀ k∈keys e.ns,nk≤k∧k<nk+8
 once:∀ k b c,(k,b)∈e.ws++e.ns→(k,c)∈e.ws++e.ns→b=c

theorem Shape.val {hp:Hp} {nk:Nat} {v:Value} {rs:List Nat}:Shape hp nk (val v rs):=⟨by simp [Gy.val,keys],by simp [Gy.val,keys],by simp [Gy.val]⟩
theorem Shape.new {hp:Hp} {nk:Nat} {v:Value} {b:Blk}:Shape hp nk ⟨v,[],[],[(nk,b)],none,false⟩:=⟨by simp [keys],by simp [keys],by simp;rintro k b c h1 h2 h3 h4;rw [h2,h4]⟩
theorem Shape.wr {hp:Hp} {nk k:Nat} {v:Value} {b:Blk} (hk:dom hp k) (h1:100≤k):Shape hp nk ⟨v,[k],[(k,b)],[],none,false⟩:=⟨by simp [keys];exact ⟨hk,h1⟩,by simp [keys],by simp;rintro k b c h1 h2 h3 h4;rw [h2,h4]⟩

section
variable {P:Program} {o:Oper} {ts:Nat→Value} {hp:Hp} {nk:Nat} {G:Hp} {V:XV} {yc:Nat}

theorem extD_nil {D:Nat→Prop}:extD D []=D:=funext fun k=>by simp [extD,keys]

theorem evR {r:Nat→Nat} {D:Nat→Prop} {a:Act} {rs:List Nat} {x:Operand} (h:RelOn o r D ts a) (hx:x∈o.op.operands) (hk:okX ts hp x) (hlow:∀ k,k<100→D k→r k=k)
  (hD:∀ k,dom (rst hp rs) k→D k):a.eval x=ren r (gev ts x)∧idsV D (gev ts x) :=
 ev h hx hk hlow fun k hk' hd=>hD k (by unfold dom rst at *;simp [hk',hd])

theorem OpD_val {v:Value} {rs:List Nat} (h:∀ r D a W,RelOn o r D ts a→Sat r D (rst hp rs) W→(∀ k,k<100→D k→r k=k)→(∀ k,dom (rst hp rs) k→D k) →
  (execOp a.eval o).run P W=.ok (.value (ren r v)) W∧idsV D v):OpD P o ts (rst hp (val v rs).rs) (val v rs):=by
 intro r D a W hR hS _ hlow hD _
 obtain ⟨h1,h2⟩:=h r D a W hR hS hlow hD
 unfold Upon
 rw [h1]
 exact ⟨rfl,r,fun _ _=>rfl,rfl,by simp only [val,extD_nil];exact h2,Turn.of_below (Below.refl _ _)⟩

theorem OpD_move {x:Operand} (ho:o.op=.move x∨o.op=.assign x) (hx:okX ts hp x):OpD P o ts (rst hp (val (gev ts x) []).rs) (val (gev ts x) []) :=
 OpD_val fun r D a W hR _ hlow hD=>by
  have:=evR hR (x:=x) (by rcases ho with h|h<;>simp [h,Op.operands]) hx hlow hD
  refine ⟨?_,this.2⟩
  rcases ho with h|h<;>simp [execOp,h,this.1]

theorem OpD_pick {c x y:Operand} {b:Bool} (ho:o.op=.pick c x y) (hc:okX ts hp c) (hb:gev ts c=.bool b) (hx:b=true→okX ts hp x) (hy:b=false→okX ts hp y) :
  OpD P o ts (rst hp (val (if b then gev ts x else gev ts y) []).rs) (val (if b then gev ts x else gev ts y) []) :=
 OpD_val fun r D a W hR _ hlow hD=>by
  have h1:=evR hR (x:=c) (by simp [ho,Op.operands]) hc hlow hD
  rw [hb] at h1
  have h1':a.eval c=.bool b:=h1.1
  cases b with
  | true =>
   have:=evR hR (x:=x) (by simp [ho,Op.operands]) (hx rfl) hlow hD
   exact ⟨by simp [execOp,ho,h1',asBool,this.1],this.2⟩
  | false =>
   have:=evR hR (x:=y) (by simp [ho,Op.operands]) (hy rfl) hlow hD
   exact ⟨by simp [execOp,ho,h1',asBool,this.1],this.2⟩

theorem OpD_newV {b:Blk} {v:Value} (hids:idsV (fun k=>k=nk) v) (h:∀ r D a W,RelOn o r D ts a→Sat r D (rst hp []) W→(∀ k,k<100→D k→r k=k)→(∀ k,dom (rst hp []) k→D k) →
  (execOp a.eval o).run P W=.ok (.value (ren (fun _=>W.heap.size) v)) (W.alloc (b.obj r))∧b.ids D) :
  OpD P o ts (rst hp (Eff.mk v [] [] [(nk,b)] none false).rs) ⟨v,[],[],[(nk,b)],none,false⟩:=by
 intro r D a W hR hS _ hlow hD hns
 obtain ⟨h1,h2⟩:=h r D a W hR hS hlow hD
 have hnk:¬D nk:=(hns (nk,b) (by simp)).1
 have hr:∀ k,D k→upd r nk W.heap.size k=r k:=fun k hk=>upd_other _ _ (fun e=>hnk (e▸hk))
 unfold Upon
 rw [h1]
 refine ⟨rfl,upd r nk W.heap.size,hr,(ren_congr (D:=fun k=>k=nk) (fun k hk=>by subst hk;exact (upd_same _ _ _).symm) hids),idsV_mono (fun k hk=>.inr (by simp [keys,hk])) hids,?_⟩
 refine ⟨rfl,rfl,rfl,by simp,fun k hk _=>Below.heap_alloc _ _ _ hk,fun p hp1=>?_,fun p hp1=>?_,fun p hp1 q hq1 _=>?_⟩
 ·simp only [List.nil_append,List.mem_singleton] at hp1;subst hp1
  refine ⟨?_,Blk.ids_mono (fun k hk=>.inl hk) h2⟩
  simp only [upd_same]
  rw [Blk.obj_congr hr h2]
  exact World.alloc_heap_new W _
 ·simp only [List.mem_singleton] at hp1;subst hp1;simp [upd_same]
 ·simp only [List.mem_singleton] at hp1 hq1;rw [hp1,hq1]

theorem OpD_new {b:Blk} (h:∀ r D a W,RelOn o r D ts a→Sat r D (rst hp []) W→(∀ k,k<100→D k→r k=k)→(∀ k,dom (rst hp []) k→D k) →
  (execOp a.eval o).run P W=.ok (.value (.pointer (some ⟨W.heap.size,0,none⟩))) (W.alloc (b.obj r))∧b.ids D) :
  OpD P o ts (rst hp (Eff.mk (gptr nk) [] [] [(nk,b)] none false).rs) ⟨gptr nk,[],[],[(nk,b)],none,false⟩ :=
 OpD_newV (by simp [gptr,idsV,idsA,idsF,ids0]) fun r D a W hR hS hl hD=>by
  have:=h r D a W hR hS hl hD
  exact ⟨by rw [this.1];simp [gptr,ren,renA,renF,ren0],this.2⟩

theorem run_newVar {T:TypeId} {v:Value} (W:World):(newVar T v).run P W=.ok ⟨W.heap.size,0,none⟩ (W.alloc (.cells v.cells T)):=by
 simp [newVar,newRow,newObj,Sem.run]

theorem OpD_alloc {T:TypeId} {z:Value} (ho:o.op=.alloc T) (hz:tyZero P T=some z) (hc:okCells z=true) (hf:flatV z=true) :
  OpD P o ts (rst hp (Eff.mk (gptr nk) [] [] [(nk,⟨z.cells,T⟩)] none false).rs) ⟨gptr nk,[],[],[(nk,⟨z.cells,T⟩)],none,false⟩ :=
 OpD_new fun r D a W _ _ _ _=>by
  have h1:z.cells.map (renF r)=z.cells:=by rw [←cells_ren (okCells_nt hc),flatV_ren hf]
  refine ⟨?_,?_⟩
  ·simp [execOp,ho,Instr.alloc,run_zeroValue hz,run_newVar,Blk.obj,h1]
  ·exact cells_ids (okCells_nt hc) (flatV_ids hf)

theorem OpD_box {T:TypeId} {x:Operand} (ho:o.op=.box T x) (hx:okX ts hp x) (hc:okCells (gev ts x)=true) :
  OpD P o ts (rst hp (Eff.mk (gptr nk) [] [] [(nk,⟨(gev ts x).cells,T⟩)] none false).rs) ⟨gptr nk,[],[],[(nk,⟨(gev ts x).cells,T⟩)],none,false⟩ :=
 OpD_new fun r D a W hR _ hlow hD=>by
  have h1:=evR hR (x:=x) (by simp [ho,Op.operands]) hx hlow hD
  refine ⟨?_,cells_ids (okCells_nt hc) h1.2⟩
  simp [execOp,ho,Instr.box,run_newVar,h1.1,cells_ren (okCells_nt hc),Blk.obj]

theorem rst_mem {k:Nat} {rs:List Nat} (h:k∈rs):rst hp rs k=hp k:=by simp [rst,h]

theorem OpD_load {T:TypeId} {x:Operand} {k off:Nat} {b:Blk} {v:Value} (ho:o.op=.load T x) (hx:okX ts hp x) (hg:gev ts x=.pointer (some ⟨k,off,none⟩)) (hb:hp k=some b) (hv:loadK P T b off=some v) :
  OpD P o ts (rst hp (val v [k]).rs) (val v [k]) :=
 OpD_val fun r D a W hR hS hlow hD=>by
  have h1:=evR hR (x:=x) (by simp [ho,Op.operands]) hx hlow hD
  rw [hg] at h1
  have h2:=hS k b (by rw [rst_mem (by simp)];exact hb)
  have h3:a.eval x=.pointer (some ⟨r k,off,none⟩):=h1.1
  refine ⟨?_,loadK_ids hv h2.2⟩
  simp [execOp,ho,Instr.loadAt,Instr.sureAddr,h3,run_loadVar_K hv h2.1]

theorem putObj_size (W:World) (k:Nat) (ob:Obj):(W.putObj k ob).heap.size=W.heap.size:=by simp [World.putObj]

theorem OpD_store {T:TypeId} {x y:Operand} {k off:Nat} {b:Blk} (ho:o.op=.store T x y) (hx:okX ts hp x) (hy:okX ts hp y) (hg:gev ts x=.pointer (some ⟨k,off,none⟩)) (hb:hp k=some b) (hown:b.T.own=true)
  (hc:okCells (gev ts y)=true) (hs:tySize P T=some (gev ts y).cells.size) (hle:off+(gev ts y).cells.size≤b.c.size) :
  OpD P o ts (rst hp (Eff.mk undef [k] [(k,⟨splice b.c off (gev ts y).cells.toList,b.T⟩)] [] none false).rs) ⟨undef,[k],[(k,⟨splice b.c off (gev ts y).cells.toList,b.T⟩)],[],none,false⟩:=by
 intro r D a W hR hS _ hlow hD _
 have h1:=evR hR (x:=x) (by simp [ho,Op.operands]) hx hlow hD
 have h1':=evR hR (x:=y) (by simp [ho,Op.operands]) hy hlow hD
 rw [hg] at h1
 have h2:=hS k b (by rw [rst_mem (by simp)];exact hb)
 have h3:a.eval x=.pointer (some ⟨r k,off,none⟩):=h1.1
 obtain ⟨bc,bt⟩:=b
 cases bt with
 | raw _ _=>cases hown
 | mp=>cases hown
 | ty bt =>
 have hrun:=run_storeVar_blk (P:=P) (r:=r) (T:=T) hc hs hle h2.1
 have hlt:r k<W.heap.size:=(Array.getElem?_eq_some_iff.1 h2.1).1
 have:(execOp a.eval o).run P W=.ok .skip (W.putObj (r k) (.cells ((splice bc off (gev ts y).cells.toList).map (renF r)) bt (0,0))):=by
  simp [execOp,ho,Instr.storeAt,Instr.sureAddr,h3,h1'.1,hrun]
 unfold Upon
 rw [this]
 refine ⟨rfl,r,fun _ _=>rfl,(ren_undef r).symm,ids_undef _,?_⟩
 refine ⟨rfl,rfl,rfl,by rw [putObj_size];exact Nat.le_refl _,fun j _ hn=>World.putObj_heap_other (fun e=>hn _ (List.mem_singleton.2 rfl) e.symm),fun p hp1=>?_,by simp,by simp⟩
 simp only [List.append_nil,List.mem_singleton] at hp1;subst hp1
 refine ⟨World.putObj_heap_same hlt,?_⟩
 simp only [extD_nil]
 exact splice_mem (Q:=idsF D) _ (fun z hz=>cells_ids (okCells_nt hc) h1'.2 z (by simpa using hz)) _ _ h2.2

theorem fnV_ren {v:Value} (h:fnV v=true) (r:Nat→Nat):ren r v=renF r v:=by cases v<;>first|rfl|cases h
theorem fnV_ids {v:Value} (h:fnV v=true) {D:Nat→Prop}:idsV D v↔idsF D v:=by cases v<;>first|exact Iff.rfl|cases h
theorem mpC_mem {l:List (ByteArray×Value)} {x:Value} (h:x∈mpC l):(∃ s,x=.string s)∨∃ p∈l,x=p.2:=by
 simp only [mpC,List.mem_toArray,List.mem_flatMap,List.mem_cons,List.not_mem_nil,or_false] at h
 obtain ⟨p,hp,rfl|rfl⟩:=h
 ·exact .inl ⟨_,rfl⟩
 ·exact .inr ⟨p,hp,rfl⟩
theorem mpB_ids {l:List (ByteArray×Value)} {D:Nat→Prop}:(mpB l).ids D↔∀ p∈l,idsF D p.2:=by
 constructor
 ·intro h p hp
  refine h p.2 ?_
  simp only [mpB,mpC,List.mem_toArray,List.mem_flatMap]
  exact ⟨p,hp,by simp⟩
 ·intro h x hx
  rcases mpC_mem hx with ⟨s,rfl⟩|⟨p,hp,rfl⟩
  ·trivial
  ·exact h p hp
theorem findL_mem {s:ByteArray} {v:Value}:∀ {l:List (ByteArray×Value)},findL s l=some v→∃ p∈l,p.2=v
 | [],h=>by cases h
 | p::l,h=>by
  simp only [findL] at h
  split at h
  ·cases h;exact ⟨p,by simp,rfl⟩
  ·obtain ⟨q,hq,e⟩:=findL_mem h
   exact ⟨q,List.mem_cons_of_mem _ hq,e⟩
theorem OpD_makeMap {T:TypeId} {y:Option Operand} (ho:o.op=.makeMap T y) (hy:y.isNone=true):OpD P o ts (rst hp (Eff.mk (.map (some nk)) [] [] [(nk,mpB [])] none false).rs) ⟨.map (some nk),[],[],[(nk,mpB [])],none,false⟩ :=
 OpD_newV (by simp [idsV,idsA,idsF,ids0]) fun r D a W _ _ _ _=>by
  obtain rfl:y=none:=by simpa using hy
  refine ⟨?_,mpB_ids.2 (by simp)⟩
  rw [mpB_obj]
  simp [execOp,ho,Instr.makeMap,newObj,Sem.run,ren,renA,renF,ren0,entL]
theorem OpD_insert {T:TypeId} {m k x:Operand} {q:Nat} {s:ByteArray} {l:List (ByteArray×Value)} (ho:o.op=.insert T m k x) (hm:okX ts hp m) (hk:okX ts hp k) (hx:okX ts hp x) (hT:strMap P T=true) (hf:fnV (gev ts x)=true) (hgm:gev ts m=.map (some q)) (hgk:gev ts k=.string s) (hb:hp q=some (mpB l)) (hn:findL s l=none) :
  OpD P o ts (rst hp (Eff.mk undef [q] [(q,mpB (l++[(s,gev ts x)]))] [] none false).rs) ⟨undef,[q],[(q,mpB (l++[(s,gev ts x)]))],[],none,false⟩:=by
 intro r D a W hR hS _ hlow hD _
 have h1:=evR hR (x:=m) (by simp [ho,Op.operands]) hm hlow hD
 have h2:=evR hR (x:=k) (by simp [ho,Op.operands]) hk hlow hD
 have h3:=evR hR (x:=x) (by simp [ho,Op.operands]) hx hlow hD
 rw [hgm] at h1
 rw [hgk] at h2
 have hs:=hS q _ (by rw [rst_mem (by simp)];exact hb)
 have e1:a.eval m=.map (some (r q)):=h1.1
 have e2:a.eval k=.string s:=h2.1
 have hrun:=run_insert (P:=P) (T:=T) (x:=a.eval x) (v:=gev ts x) hT hs.1 hn (by rw [h3.1,fnV_ren hf])
 have hlt:r q<W.heap.size:=(Array.getElem?_eq_some_iff.1 hs.1).1
 have:(execOp a.eval o).run P W=.ok .skip (W.putObj (r q) ((mpB (l++[(s,gev ts x)])).obj r)):=by
  simp [execOp,ho,e1,e2,hrun]
 unfold Upon
 rw [this]
 refine ⟨rfl,r,fun _ _=>rfl,(ren_undef r).symm,ids_undef _,?_⟩
 refine ⟨rfl,rfl,rfl,by rw [putObj_size];exact Nat.le_refl _,fun j _ hn=>World.putObj_heap_other (fun e=>hn _ (List.mem_singleton.2 rfl) e.symm),fun p hp1=>?_,by simp,by simp⟩
 simp only [List.append_nil,List.mem_singleton] at hp1;subst hp1
 refine ⟨World.putObj_heap_same hlt,?_⟩
 simp only [extD_nil]
 refine mpB_ids.2 fun p hp2=>?_
 rcases List.mem_append.1 hp2 with hp2|hp2
 ·exact mpB_ids.1 hs.2 p hp2
 ·simp only [List.mem_singleton] at hp2
  subst hp2
  exact (fnV_ids hf).1 h3.2
theorem OpD_lookup {T:TypeId} {m k:Operand} {q:Nat} {s:ByteArray} {l:List (ByteArray×Value)} {v:Value} (ho:o.op=.lookup T m k false) (hm:okX ts hp m) (hk:okX ts hp k) (hT:strMap P T=true) (hgm:gev ts m=.map (some q)) (hgk:gev ts k=.string s) (hb:hp q=some (mpB l)) (hn:findL s l=some v) (hf:fnV v=true) :
  OpD P o ts (rst hp (val v [q]).rs) (val v [q]) :=
 OpD_val fun r D a W hR hS hlow hD=>by
  have h1:=evR hR (x:=m) (by simp [ho,Op.operands]) hm hlow hD
  have h2:=evR hR (x:=k) (by simp [ho,Op.operands]) hk hlow hD
  rw [hgm] at h1
  rw [hgk] at h2
  have hs:=hS q _ (by rw [rst_mem (by simp)];exact hb)
  have e1:a.eval m=.map (some (r q)):=h1.1
  have e2:a.eval k=.string s:=h2.1
  have hrun:=run_lookup (P:=P) (T:=T) hT hs.1 hn
  refine ⟨by simp [execOp,ho,e1,e2,hrun,fnV_ren hf],?_⟩
  obtain ⟨p,hp,rfl⟩:=findL_mem hn
  exact (fnV_ids hf).2 (mpB_ids.1 hs.2 p hp)
theorem OpD_extract {x:Operand} {i:Nat} {vs:Array Value} {v:Value} (ho:o.op=.extract x i) (hx:okX ts hp x) (hg:gev ts x=.tuple vs) (hv:vs[i]? = some v) (hn:notTup v=true) :
  OpD P o ts (rst hp (val v []).rs) (val v []) :=
 OpD_val fun r D a W hR _ hlow hD=>by
  have h1:=evR hR (x:=x) (by simp [ho,Op.operands]) hx hlow hD
  rw [hg] at h1
  have h3:a.eval x=.tuple (vs.map (renA r)):=h1.1
  have h4:ren r v=renA r v:=by cases v<;>simp_all [notTup,ren]
  refine ⟨by simp [execOp,ho,Instr.extract,h3,hv,h4],?_⟩
  have:=h1.2 v (Array.mem_of_getElem? hv)
  cases v<;>simp_all [notTup,idsV]

theorem Addr_add (k off m:Nat):(⟨k,off,none⟩:Addr).add m=⟨k,off+m,none⟩:=Addr.add_mid k off m

theorem OpD_indexA {T e:TypeId} {x i:Operand} {kd:IntKind} {m:Int} {len k off s:Nat} (ho:o.op=.indexAddr T x i) (hx:okX ts hp x) (hi:okX ts hp i) (hgi:gev ts i=.int kd m)
  (hu:P.underlying T=some (.array len e)) (hg:gev ts x=.pointer (some ⟨k,off,none⟩)) (h0:0≤m) (hl:m<len) (hs:tySize P e=some s) :
  OpD P o ts (rst hp (val (.pointer (some ⟨k,off+m.toNat*s,none⟩)) []).rs) (val (.pointer (some ⟨k,off+m.toNat*s,none⟩)) []) :=
 OpD_val fun r D a W hR _ hlow hD=>by
  have h1:=evR hR (x:=x) (by simp [ho,Op.operands]) hx hlow hD
  have h2:=evR hR (x:=i) (by simp [ho,Op.operands]) hi hlow hD
  rw [hg] at h1
  rw [hgi] at h2
  have h3:a.eval x=.pointer (some ⟨r k,off,none⟩):=h1.1
  have h4:a.eval i=.int kd m:=h2.1
  refine ⟨?_,h1.2⟩
  have hD':D k:=by simpa [idsV,idsA,idsF,ids0] using h1.2
  simp [execOp,ho,Instr.indexAt,h3,h4,asIntOf,run_underlying hu,Instr.sureAddr,h0,hl,run_sizeOf hs,Addr_add,ren,renA,renF,ren0]

theorem OpD_indexS {T e:TypeId} {x i:Operand} {kd:IntKind} {m:Int} {len cap k off s:Nat} (ho:o.op=.indexAddr T x i) (hx:okX ts hp x) (hi:okX ts hp i) (hgi:gev ts i=.int kd m)
  (hu:P.underlying T=some (.slice e)) (hg:gev ts x=.slice (some ⟨k,off,none⟩) len cap) (h0:0≤m) (hl:m<len) (hs:tySize P e=some s) :
  OpD P o ts (rst hp (val (.pointer (some ⟨k,off+m.toNat*s,none⟩)) []).rs) (val (.pointer (some ⟨k,off+m.toNat*s,none⟩)) []) :=
 OpD_val fun r D a W hR _ hlow hD=>by
  have h1:=evR hR (x:=x) (by simp [ho,Op.operands]) hx hlow hD
  have h2:=evR hR (x:=i) (by simp [ho,Op.operands]) hi hlow hD
  rw [hg] at h1
  rw [hgi] at h2
  have h3:a.eval x=.slice (some ⟨r k,off,none⟩) len cap:=h1.1
  have h4:a.eval i=.int kd m:=h2.1
  refine ⟨?_,by simpa [idsV,idsA,idsF,ids0] using h1.2⟩
  simp [execOp,ho,Instr.indexAt,h3,h4,asIntOf,run_underlying hu,h0,hl,run_sizeOf hs,Addr_add,ren,renA,renF,ren0]

theorem OpD_makeFunc {fn:Fn} {first cap:Array Operand} (ho:o.op=.makeFunc fn first cap) (h1:∀ x∈first.toList,okX ts hp x∧plain0 (gev ts x)=true) (h2:∀ x∈cap.toList,okX ts hp x∧plain0 (gev ts x)=true) :
  OpD P o ts (rst hp (val (.func fn (first.map (gev ts)) (cap.map (gev ts))) []).rs) (val (.func fn (first.map (gev ts)) (cap.map (gev ts))) []) :=
 OpD_val fun r D a W hR _ hlow hD=>by
  have e1:∀ x∈first,a.eval x=ren0 r (gev ts x)∧ids0 D (gev ts x):=fun x hx=>by
   have h:=h1 x (by simpa using hx)
   have:=evR hR (x:=x) (by simp [ho,Op.operands,hx]) h.1 hlow hD
   exact ⟨by rw [this.1,ren_plain0 h.2],(ids_plain0 h.2).1 this.2⟩
  have e2:∀ x∈cap,a.eval x=ren0 r (gev ts x)∧ids0 D (gev ts x):=fun x hx=>by
   have h:=h2 x (by simpa using hx)
   have:=evR hR (x:=x) (by simp [ho,Op.operands,hx]) h.1 hlow hD
   exact ⟨by rw [this.1,ren_plain0 h.2],(ids_plain0 h.2).1 this.2⟩
  refine ⟨?_,?_⟩
  ·simp only [execOp,ho,Instr.makeFunc,ren,renA,renF,Array.map_map]
   rw [Array.map_congr_left (g:=ren0 r∘gev ts) (fun x hx=>(e1 x hx).1),Array.map_congr_left (g:=ren0 r∘gev ts) (fun x hx=>(e2 x hx).1)]
   rfl
  ·refine ⟨fun v hv=>?_,fun v hv=>?_⟩
   ·obtain ⟨x,hx,rfl⟩:=Array.mem_map.1 hv;exact (e1 x hx).2
   ·obtain ⟨x,hx,rfl⟩:=Array.mem_map.1 hv;exact (e2 x hx).2

theorem OpD_pure {v:Value} (hs:∀ cs b,o.op≠.select cs b) (h1:∀ x∈o.op.operands.toList,okX ts hp x∧flatV (gev ts x)=true) (hv:flatV v=true) (hr:∀ W,(execOp (gev ts) o).run P W=.ok (.value v) W) :
  OpD P o ts (rst hp (val v []).rs) (val v []) :=
 OpD_val fun r D a W hR _ hlow hD=>by
  refine ⟨?_,flatV_ids hv⟩
  rw [flatV_ren hv,←hr W]
  congr 1
  refine execOp_congr o hs fun x hx=>?_
  have h:=h1 x (by simpa using hx)
  rw [(evR hR hx h.1 hlow hD).1,flatV_ren h.2]

theorem OpD_call {c:Call} {f:Operand} {g:FuncId} {first cap:Array Value} {v:Value} (hGF:GFlat G) (hG:∀ k,k<100→hp k=G k) (ho:o.op=.call c) (hc:c.callee=.value f) (hf:okX ts hp f) (hgf:gev ts f=.func (.func g) first cap)
  (hfi:first.size=0) (hca:cap.size=0) (ha:∀ x∈c.args.toList,okX ts hp x) (hr:Ret P G g (c.args.map (gev ts)) v∨RetV P g (c.args.map (gev ts)) v):OpD P o ts (rst hp (val v []).rs) (val v []):=by
 intro r D a W hR hS _ hlow hD _
 have hfl:∀ x∈c.args.map (gev ts),flatV x=true:=hr.elim (fun h=>h.2.1) (fun h=>h.2.1)
 obtain rfl:first=#[]:=by cases first;simpa using hfi
 obtain rfl:cap=#[]:=by cases cap;simpa using hca
 have h1:=evR hR (x:=f) (by simp [ho,hc,Op.operands,Call.operands]) hf hlow hD
 rw [hgf] at h1
 have h3:a.eval f=.func (.func g) #[] #[]:=by rw [h1.1];simp [ren,renA,renF]
 have hargs:c.args.map a.eval=c.args.map (gev ts):=Array.map_congr_left fun x hx=>by
  rw [(evR hR (x:=x) (by simp [ho,Op.operands,Call.operands,hx]) (ha x (by simpa using hx)) hlow hD).1]
  exact flatV_ren (hfl _ (Array.mem_map.2 ⟨x,hx,rfl⟩))
 rcases hr with hr|⟨hv,_,hen⟩
 rotate_left
 ·have hrun:(execOp a.eval o).run P W=.ok (.value v) W:=by
   simp [execOp,ho,resolve,hc,h3,Deferred.ofValue,invoke,hargs,hen]
  unfold Upon
  rw [hrun]
  exact ⟨rfl,r,fun _ _=>rfl,(flatV_ren hv).symm,flatV_ids hv,Turn.of_below (Below.refl _ _)⟩
 obtain ⟨hv,_,hen,hcall⟩:=hr
 have hrun:(execOp a.eval o).run P W=.ok (.enter g (c.args.map (gev ts))) W:=by
  simp [execOp,ho,resolve,hc,h3,Deferred.ofValue,invoke,hargs,hen]
 have hgok:GOK G W:=fun k b hk=>by
  obtain ⟨hlt,hfl⟩:=hGF k b hk
  have hb:rst hp [] k=some b:=by simp [rst,hlt,hG k hlt,hk]
  have h2:=hS k b hb
  have hDk:D k:=hD k (by unfold dom;show rst hp [] k≠none;rw [hb];simp)
  rw [hlow k hlt hDk] at h2
  rw [h2.1]
  rw [Blk.obj_flat (fun x hx=>hfl x hx)]
 unfold Upon
 rw [hrun]
 refine (hcall W hgok).mono fun e W'' ⟨he,hb⟩=>?_
 subst he
 exact ⟨rfl,r,fun _ _=>rfl,(flatV_ren hv).symm,flatV_ids hv,Turn.of_below hb⟩

theorem gok_of {r:Nat→Nat} {D:Nat→Prop} {W:World} {rs:List Nat} (hGF:GFlat G) (hG:∀ k,k<100→hp k=G k) (hS:Sat r D (rst hp rs) W) (hlow:∀ k,k<100→D k→r k=k) (hD:∀ k,dom (rst hp rs) k→D k):GOK G W:=fun k b hk=>by
 obtain ⟨hlt,hfl⟩:=hGF k b hk
 have hb:rst hp rs k=some b:=by simp [rst,hlt,hG k hlt,hk]
 have h2:=hS k b hb
 have hDk:D k:=hD k (by unfold dom;rw [hb];simp)
 rw [hlow k hlt hDk] at h2
 rw [h2.1]
 rw [Blk.obj_flat (fun x hx=>hfl x hx)]

theorem okT_okX {x:Operand} (h:okT ts x):okX ts hp x:=by cases x<;>first|exact h|exact h.elim

theorem OpD_fun {c:Call} {f:Operand} {g:FuncId} {first cap:Array Value} {rs:List Nat} {res:Res} (hGF:GFlat G) (hG:∀ k,k<100→hp k=G k) (ho:o.op=.call c) (hc:c.callee=.value f) (hf:okT ts f) (hgf:gev ts f=.func (.func g) first cap)
  (hfi:first.size=0) (hcp:cap.all plain0=true) (ha:∀ x∈c.args.toList,okX ts hp x) (hr:Fun P G g (c.args.map (gev ts)++cap) hp rs res):OpD P o ts (rst hp (res.eff rs).rs) (res.eff rs):=by
 have ers:(res.eff rs).rs=rs:=by cases res<;>rfl
 rw [ers]
 intro r D a W hR hS hinj hlow hD hnsD
 obtain rfl:first=#[]:=by cases first;simpa using hfi
 have hD':∀ k,k<100→dom hp k→D k:=fun k hk hd=>hD k (by unfold dom rst at *;simp [hk,hd])
 have h1:=ev hR (x:=f) (by simp [ho,hc,Op.operands,Call.operands]) (okT_okX (hp:=hp) hf) hlow hD'
 rw [hgf] at h1
 have h3:a.eval f=.func (.func g) #[] (cap.map (ren0 r)):=by rw [h1.1];simp [ren,renA,renF]
 have hargs:c.args.map a.eval=(c.args.map (gev ts)).map (ren r):=by
  rw [Array.map_map]
  exact Array.map_congr_left fun x hx=>(ev hR (x:=x) (by simp [ho,Op.operands,Call.operands,hx]) (ha x (by simpa using hx)) hlow hD').1
 have hrun:(execOp a.eval o).run P W=.ok (.enter g ((c.args.map (gev ts)).map (ren r)++cap.map (ren0 r))) W:=by
  simp [execOp,ho,resolve,hc,h3,Deferred.ofValue,invoke,hargs,hr.enter]
 have hS':Sat r (dom (rst hp rs)) (rst hp rs) W:=fun k b hk=>⟨(hS k b hk).1,hr.closed k b hk⟩
 have hcall:=hr.run r W (gok_of hGF hG hS hlow hD) hS' (fun k l hk hl=>hinj k l (hD k hk) (hD l hl)) (fun k hk hd=>hlow k hk (hD k hd))
 have hcap:∀ x∈cap,ren r x=ren0 r x:=fun x hx=>ren_plain0 (Array.all_eq_true_iff_forall_mem.1 hcp x hx)
 have e2:(c.args.map (gev ts)).map (ren r)++cap.map (ren0 r)=(c.args.map (gev ts)++cap).map (ren r):=by
  rw [Array.map_append];congr 1;exact Array.map_congr_left fun x hx=>(hcap x hx).symm
 unfold Upon
 rw [hrun]
 dsimp only
 rw [e2]
 refine hcall.mono fun e W'' he=>?_
 cases res with
 | ret v ws =>
  obtain ⟨rfl,ht⟩:=he
  refine ⟨rfl,r,fun _ _=>rfl,rfl,idsV_mono (fun k hk=>.inl (hD k hk)) hr.fits.1,{ ht with has:=fun p hp1=>⟨(ht.has p hp1).1,Blk.ids_mono (fun k hk=>hk.imp (hD k) id) (ht.has p hp1).2⟩ }⟩
 | pan v =>
  obtain ⟨rfl,hb⟩:=he
  exact ⟨v,rfl,rfl,hb⟩
 | new v ns =>
  have hns:∀ k∈keys ns,¬D k:=fun k hk=>by
   obtain ⟨p,hp1,rfl⟩:=mem_keys.1 hk
   exact (hnsD p hp1).1
  obtain ⟨r1,h1,rfl,ht⟩:=he (fun k hk hd=>hns k hk (hD k hd))
  let r2:Nat→Nat:=fun k=>if k∈keys ns then r1 k else r k
  have e1:∀ k,extD (dom (rst hp rs)) ns k→r2 k=r1 k:=fun k hk=>by
   by_cases h:k∈keys ns
   ·simp [r2,h]
   ·have hk':=hk.resolve_right h
    simp only [r2,h,if_false]
    exact (h1 k hk').symm
  have e2:∀ k,D k→r2 k=r k:=fun k hk=>by simp only [r2,if_neg (fun h=>hns k h hk)]
  have e3:∀ p∈ns,r2 p.1=r1 p.1:=fun p hp1=>e1 _ (.inr (mem_keys.2 ⟨p,hp1,rfl⟩))
  refine ⟨rfl,r2,e2,(ren_congr e1 hr.fits.1).symm,idsV_mono (fun k hk=>hk.imp (hD k) id) hr.fits.1,ht.os,ht.tape,ht.output,ht.size,fun k hk _=>ht.same k hk (by simp),fun p hp1=>?_,fun p hp1=>by rw [e3 p hp1];exact ht.fresh p hp1,fun p hp1 q hq1 h=>ht.apart p hp1 q hq1 (by rw [←e3 p hp1,←e3 q hq1];exact h)⟩
  have hp1:p∈ns:=by simpa [Res.eff] using hp1
  have hh:=ht.has p (by simpa using hp1)
  rw [e3 p hp1,Blk.obj_congr e1 hh.2]
  exact ⟨hh.1,Blk.ids_mono (fun k hk=>hk.imp (hD k) id) hh.2⟩


theorem foldl_put_map (f:Value→Value) (off:Nat):∀ (l:List (Value×Nat)) (cs:Array Value),
  (l.map fun p=>(f p.1,p.2)).foldl (fun cs (p:Value×Nat)=>cs.setIfInBounds (off+p.2) p.1) (cs.map f)=(l.foldl (fun cs (p:Value×Nat)=>cs.setIfInBounds (off+p.2) p.1) cs).map f
 | [],cs=>rfl
 | p::l,cs=>by
  simp only [List.map_cons,List.foldl_cons]
  rw [←Array.map_setIfInBounds,foldl_put_map f off l]
theorem foldl_put_mem {Q:Value→Prop} (off:Nat):∀ (l:List (Value×Nat)) (cs:Array Value),(∀ p∈l,Q p.1)→(∀ x∈cs,Q x)→∀ x∈l.foldl (fun cs (p:Value×Nat)=>cs.setIfInBounds (off+p.2) p.1) cs,Q x
 | [],_,_,h=>h
 | p::l,cs,hl,h=>by
  simp only [List.foldl_cons]
  refine foldl_put_mem off l _ (fun q hq=>hl q (List.mem_cons_of_mem _ hq)) (fun x hx=>?_)
  rcases Array.mem_or_eq_of_mem_setIfInBounds hx with h'|h'
  ·exact h x h'
  ·exact h'▸hl p (by simp)
theorem zip_foldl (off:Nat) (vs cs:Array Value):vs.zipIdx.foldl (fun cs (c,j)=>cs.setIfInBounds (off+j) c) cs=vs.toList.zipIdx.foldl (fun cs (p:Value×Nat)=>cs.setIfInBounds (off+p.2) p.1) cs:=by
 rw [←Array.foldl_toList,Array.toList_zipIdx]

theorem fill_ren {r:Nat→Nat} {pl:Nat→Option (Nat×Nat)}:∀ (parts:List (Nat×Value)) (cells cs:Array Value),(∀ p∈parts,okCells p.2=true)→Instr.fill pl cells parts=some cs →
  Instr.fill pl (cells.map (renF r)) (parts.map fun p=>(p.1,ren r p.2))=some (cs.map (renF r))
 | [],cells,cs,_,h=>by simp only [Instr.fill,Option.some.injEq] at h;subst h;rfl
 | (i,v)::rest,cells,cs,hp,h=>by
  simp only [Instr.fill,List.map_cons] at h ⊢
  cases hpl:pl i with
  | none=>simp [hpl] at h
  | some os =>
   obtain ⟨off,size⟩:=os
   simp only [hpl] at h ⊢
   have hc:=cells_ren (r:=r) (okCells_nt (hp (i,v) (by simp)))
   rw [hc]
   simp only [Array.size_map]
   split at h
   ·cases h
   ·rename_i hn
    rw [if_neg hn]
    have:=fill_ren (r:=r) rest _ cs (fun p hp'=>hp p (List.mem_cons_of_mem _ hp')) h
    rw [←this]
    congr 1
    rw [zip_foldl,zip_foldl,←foldl_put_map]
    congr 1
    simp [List.zipIdx_map]

theorem fill_ids {D:Nat→Prop} {pl:Nat→Option (Nat×Nat)}:∀ (parts:List (Nat×Value)) (cells cs:Array Value),(∀ p∈parts,okCells p.2=true∧idsV D p.2)→(∀ x∈cells,idsF D x)→Instr.fill pl cells parts=some cs→∀ x∈cs,idsF D x
 | [],cells,cs,_,hc,h=>by simp only [Instr.fill,Option.some.injEq] at h;subst h;exact hc
 | (i,v)::rest,cells,cs,hp,hc,h=>by
  simp only [Instr.fill] at h
  cases hpl:pl i with
  | none=>simp [hpl] at h
  | some os =>
   obtain ⟨off,size⟩:=os
   simp only [hpl] at h
   split at h
   ·cases h
   ·refine fill_ids rest _ cs (fun p hp'=>hp p (List.mem_cons_of_mem _ hp')) ?_ h
    rw [zip_foldl]
    have h0:=hp (i,v) (by simp)
    refine foldl_put_mem off _ _ (fun q hq=>?_) hc
    have:q.1∈v.cells.toList:=by
     have:=List.mem_zipIdx' (x:=q.1) (i:=q.2) (by simpa using hq)
     rw [this.2];exact List.getElem_mem _
    exact cells_ids (okCells_nt h0.1) h0.2 _ (by simpa using this)

theorem built_ren {r:Nat→Nat} {T:TypeId} {parts:List (Nat×Value)} {cs:Array Value} {z:Value} (hz:tyZero P T=some z) (hzc:okCells z=true) (hzf:flatV z=true) (hp:∀ p∈parts,okCells p.2=true)
  (h:P.built T parts=some cs):P.built T (parts.map fun p=>(p.1,ren r p.2))=some (cs.map (renF r)):=by
 have hzm:z.cells.map (renF r)=z.cells:=by rw [←cells_ren (okCells_nt hzc),flatV_ren hzf]
 unfold Program.built at h ⊢
 unfold tyZero at hz
 cases hi:P.info? T with
 | none=>simp [hi] at hz
 | some it =>
  simp [hi] at hz
  simp only [hi] at h ⊢
  cases hu:P.underlying T with
  | none=>simp [hu] at h
  | some dd =>
   cases dd<;>try (simp [hu] at h;done)
   case array n e =>
    simp only [hu,hz] at h ⊢
    cases hie:P.info? e with
    | none=>simp [hie] at h
    | some ie =>
     simp only [hie] at h ⊢
     rw [←hzm]
     exact fill_ren _ _ _ hp h
   case struct fs =>
    simp only [hu,hz] at h ⊢
    cases hm:fs.toList.mapM (fun f=>(P.info? f.type).map fun i=>(f.offset,i.size)) with
    | none=>simp [hm] at h
    | some pl =>
     simp only [hm] at h ⊢
     rw [←hzm]
     exact fill_ren _ _ _ hp h

theorem built_ids {D:Nat→Prop} {T:TypeId} {parts:List (Nat×Value)} {cs:Array Value} {z:Value} (hz:tyZero P T=some z) (hzc:okCells z=true) (hzf:flatV z=true) (hp:∀ p∈parts,okCells p.2=true∧idsV D p.2)
  (h:P.built T parts=some cs):∀ x∈cs,idsF D x:=by
 have hzi:∀ x∈z.cells,idsF D x:=cells_ids (okCells_nt hzc) (flatV_ids hzf)
 unfold Program.built at h
 unfold tyZero at hz
 cases hi:P.info? T with
 | none=>simp [hi] at hz
 | some it =>
  simp [hi] at hz
  simp only [hi] at h
  cases hu:P.underlying T with
  | none=>simp [hu] at h
  | some dd =>
   cases dd<;>try (simp [hu] at h;done)
   case array n e =>
    simp only [hu,hz] at h
    cases hie:P.info? e with
    | none=>simp [hie] at h
    | some ie =>
     simp only [hie] at h
     exact fill_ids _ _ _ hp hzi h
   case struct fs =>
    simp only [hu,hz] at h
    cases hm:fs.toList.mapM (fun f=>(P.info? f.type).map fun i=>(f.offset,i.size)) with
    | none=>simp [hm] at h
    | some pl =>
     simp only [hm] at h
     exact fill_ids _ _ _ hp hzi h

theorem OpD_build {T:TypeId} {parts:Array (Nat×Operand)} {z:Value} {cs:Array Value} (ho:o.op=.build T parts) (h1:∀ p∈parts.toList,okX ts hp p.2∧okCells (gev ts p.2)=true)
  (hz:tyZero P T=some z) (hzc:okCells z=true) (hzf:flatV z=true) (hcs:P.built T (partsG ts parts)=some cs):OpD P o ts (rst hp (val (.agg cs) []).rs) (val (.agg cs) []) :=
 OpD_val fun r D a W hR _ hlow hD=>by
  have e1:∀ p∈parts.toList,a.eval p.2=ren r (gev ts p.2)∧idsV D (gev ts p.2):=fun p hp1 =>
   evR hR (x:=p.2) (by
    simp only [ho,Op.operands]
    simp only [List.mem_toArray,List.mem_map]
    exact ⟨p,hp1,rfl⟩) (h1 p hp1).1 hlow hD
  have e2:(parts.map fun (i,x)=>(i,a.eval x)).toList=(partsG ts parts).map fun p=>(p.1,ren r p.2):=by
   simp only [Array.toList_map,partsG,List.map_map]
   refine List.map_congr_left fun p hp1=>?_
   simp only [Function.comp]
   rw [(e1 p hp1).1]
  have h3:=built_ren (r:=r) hz hzc hzf (fun p hp1=>by
   simp only [partsG,List.mem_map] at hp1
   obtain ⟨q,hq,rfl⟩:=hp1
   exact (h1 q hq).2) hcs
  rw [←e2] at h3
  refine ⟨?_,built_ids (D:=D) hz hzc hzf (fun p hp1=>?_) hcs⟩
  ·simp only [execOp,ho,Sem.run_bind,run_build W T _ _ h3,Result.andThen_ok,Sem.run_pure,ren,renA]
  ·simp only [partsG,List.mem_map] at hp1
   obtain ⟨q,hq,rfl⟩:=hp1
   exact ⟨(h1 q hq).2,(e1 q hq).2⟩

theorem splice_foldl (off:Nat):∀ (l:List Value) (j:Nat) (cs:Array Value),(l.zipIdx j).foldl (fun cs (p:Value×Nat)=>cs.setIfInBounds (off+p.2) p.1) cs=splice cs (off+j) l
 | [],_,_=>rfl
 | v::l,j,cs=>by
  simp only [List.zipIdx_cons,List.foldl_cons,splice]
  rw [splice_foldl off l (j+1)]
  rfl
theorem fill_of_G {pl:List (Nat×Nat) ⊕ Nat}:∀ (parts:List (Nat×Value)) (cells cs:Array Value),fillG pl cells parts=some cs→Instr.fill (plAt pl) cells parts=some cs
 | [],_,_,h=>h
 | (i,v)::rest,cells,cs,h=>by
  simp only [fillG] at h
  simp only [Instr.fill]
  cases hpl:plAt pl i with
  | none=>simp [hpl] at h
  | some os =>
   obtain ⟨off,size⟩:=os
   simp only [hpl] at h ⊢
   split at h
   ·rename_i hc
    rw [if_neg (by simp [hc.1];rw [←hc.1];exact hc.2),zip_foldl]
    have:=splice_foldl off v.cells.toList 0 cells
    rw [this]
    exact fill_of_G rest _ cs h
   ·cases h
theorem built_of_fillG {T:TypeId} {z:Value} {pl:List (Nat×Nat) ⊕ Nat} {parts:List (Nat×Value)} {cs:Array Value} (hz:tyZero P T=some z) (hpl:placesOf P T=some pl) (h:fillG pl z.cells parts=some cs):P.built T parts=some cs:=by
 have h:=fill_of_G _ _ _ h
 unfold tyZero at hz
 unfold placesOf at hpl
 unfold Program.built
 cases hi:P.info? T with
 | none=>simp [hi] at hz
 | some it =>
  have hz':it.zero=some z:=by simpa [hi] using hz
  cases hu:P.underlying T with
  | none=>simp [hu] at hpl
  | some dd =>
   cases dd<;>try (simp [hu] at hpl;done)
   case array n e =>
    simp only [hu] at hpl ⊢
    unfold tySize at hpl
    cases hie:P.info? e with
    | none=>simp [hie] at hpl
    | some ie =>
     simp [hie] at hpl
     subst hpl
     simp only [hz']
     exact h
   case struct fs =>
    simp only [hu] at hpl ⊢
    cases hm:fs.toList.mapM (fun f=>(P.info? f.type).map fun i=>(f.offset,i.size)) with
    | none=>simp [hm] at hpl
    | some l =>
     simp [hm] at hpl
     subst hpl
     simp only [hz']
     have:(fun x=>l.toArray[x]?)=plAt (.inl l):=by funext x;simp [plAt]
     rw [this]
     exact h

theorem OpD_iface {T:TypeId} {x:Operand} {dd:TypeDesc} (ho:o.op=.makeInterface T x) (hx:okX ts hp x) (h1:plain0 (gev ts x)=true) (hu:P.underlying T=some dd) (hn:∀ ms,dd≠.interface ms) :
  OpD P o ts (rst hp (val (.iface T (gev ts x)) []).rs) (val (.iface T (gev ts x)) []) :=
 OpD_val fun r D a W hR _ hlow hD=>by
  have:=evR hR (x:=x) (by simp [ho,Op.operands]) hx hlow hD
  refine ⟨?_,(ids_plain0 h1).1 this.2⟩
  simp only [execOp,ho,Instr.makeInterface,Sem.run_bind,run_underlying hu,Result.andThen_ok]
  rw [this.1,ren_plain0 h1]
  cases dd<;>first
   | exact absurd rfl (hn _)
   | simp [ren,renA,renF]

theorem eqIA_flat:∀ (xs ys:List Value) (r:Bool),eqIA xs ys=some r→(∀ x∈xs,flatF x=true)∧(∀ y∈ys,flatF y=true)
 | [],[],_,_=>⟨by simp,by simp⟩
 | .int k a::xs,.int k' b::ys,r,h=>by
  simp only [eqIA] at h
  split at h
  ·split at h
   ·rename_i q hq
    have:=eqIA_flat xs ys q hq
    exact ⟨by simpa [flatF,flat0] using this.1,by simpa [flatF,flat0] using this.2⟩
   ·cases h
  ·cases h

theorem bin2_ren {op:BinOp} {T:TypeId} {x y v:Value} (r:Nat→Nat) (h:bin2 P op T x y=some v):bin2 P op T (ren r x) (ren r y)=some v:=by
 have key:∀ {xs ys:Array Value} {q:Bool},agg2 P T xs ys=some q→flatV (.agg xs)=true∧flatV (.agg ys)=true:=fun {xs ys q} h=>by
  unfold agg2 agg2S at h
  split at h
  ·unfold arr2 at h
   split at h
   ·split at h
    ·have:=eqIA_flat _ _ _ h
     exact ⟨Array.all_eq_true_iff_forall_mem.2 (fun x hx=>this.1 x (by simpa using hx)),Array.all_eq_true_iff_forall_mem.2 (fun x hx=>this.2 x (by simpa using hx))⟩
    ·cases h
   ·cases h
  ·split at h
   ·split at h
    ·rename_i hf
     simp only [Bool.and_eq_true] at hf
     exact hf
    ·cases h
   ·cases h
 have h0:=h
 unfold bin2 at h
 split at h
 ·exact h0
 ·exact h0
 ·split at h
  ·split at h
   ·rename_i q hq;rw [flatV_ren (key hq).1,flatV_ren (key hq).2];exact h0
   ·cases h
  ·split at h
   ·rename_i q hq;rw [flatV_ren (key hq).1,flatV_ren (key hq).2];exact h0
   ·cases h
  ·cases h
 ·rename_i p l c
  cases p with
  | none=>exact h0
  | some a=>exact h0
 ·cases h

theorem OpD_bin {op:BinOp} {T yT:TypeId} {x y:Operand} {v:Value} (ho:o.op=.binOp op T x y yT) (hx:okX ts hp x) (hy:okX ts hp y) (hv:bin2 P op T (gev ts x) (gev ts y)=some v) :
  OpD P o ts (rst hp (val v []).rs) (val v []) :=
 OpD_val fun r D a W hR _ hlow hD=>by
  have h1:=evR hR (x:=x) (by simp [ho,Op.operands]) hx hlow hD
  have h2:=evR hR (x:=y) (by simp [ho,Op.operands]) hy hlow hD
  have hs:=bin2_sound (ox:=x) (oy:=y) (bin2_ren r hv) W
  refine ⟨?_,flatV_ids hs.2⟩
  rw [flatV_ren hs.2]
  have:=hs.1
  simp only [execOp,ho,h1.1,h2.1]
  rw [Sem.run_bind,this]
  rfl

theorem un1_flat {op:UnOp} {x v:Value} (h:un1 op x=some v):flatV x=true:=by
 unfold un1 at h;split at h<;>first|rfl|cases h

theorem OpD_un {op:UnOp} {T:TypeId} {x:Operand} {v:Value} (ho:o.op=.unOp op T x) (hx:okX ts hp x) (hv:un1 op (gev ts x)=some v):OpD P o ts (rst hp (val v []).rs) (val v []) :=
 OpD_val fun r D a W hR _ hlow hD=>by
  have h1:=evR hR (x:=x) (by simp [ho,Op.operands]) hx hlow hD
  have hs:=un1_sound (P:=P) hv W
  rw [flatV_ren (un1_flat hv)] at h1
  refine ⟨?_,flatV_ids hs.2⟩
  rw [flatV_ren hs.2]
  simp only [execOp,ho,h1.1]
  rw [Sem.run_bind,hs.1]
  rfl

theorem conv1_flat {S T:TypeId} {x v:Value} (h:conv1 P S T x=some v):flatV x=true:=by
 unfold conv1 at h;split at h<;>first|rfl|cases h

theorem OpD_conv {S T:TypeId} {x:Operand} {v:Value} (ho:o.op=.convert S T x) (hx:okX ts hp x) (hv:conv1 P S T (gev ts x)=some v):OpD P o ts (rst hp (val v []).rs) (val v []) :=
 OpD_val fun r D a W hR _ hlow hD=>by
  have h1:=evR hR (x:=x) (by simp [ho,Op.operands]) hx hlow hD
  have hs:=conv1_sound hv W
  rw [flatV_ren (conv1_flat hv)] at h1
  refine ⟨?_,flatV_ids hs.2⟩
  rw [flatV_ren hs.2]
  simp only [execOp,ho,h1.1]
  rw [Sem.run_bind,hs.1]
  rfl

theorem OpD_buildSlice {T e:TypeId} {len m:Nat} {parts:Array (Nat×Operand)} {z:Value} {cs:Array Value} (ho:o.op=.buildSlice T len parts) (h0:∀ p∈parts.toList,okX ts hp p.2∧okCells (gev ts p.2)=true)
  (hu:P.underlying T=some (.slice e)) (hm:tySize P e=some m) (hz:tyZero P e=some z) (hzc:okCells z=true) (hzf:flatV z=true) (hpos:0<len*m) (hle:len*m≤16777216)
  (hcs:fillG (.inr m) ((Array.range (len*m)).map (z.cells[·%z.cells.size]!)) (partsG ts parts)=some cs) :
  OpD P o ts (rst hp (Eff.mk (.slice (some ⟨nk,0,none⟩) len len) [] [] [(nk,⟨cs,e⟩)] none false).rs) ⟨.slice (some ⟨nk,0,none⟩) len len,[],[],[(nk,⟨cs,e⟩)],none,false⟩ :=
 OpD_newV (by simp [idsV,idsA,idsF,ids0]) fun r D a W hR _ hlow hD=>by
  have e1:∀ p∈parts.toList,a.eval p.2=ren r (gev ts p.2)∧idsV D (gev ts p.2):=fun p hp1 =>
   evR hR (x:=p.2) (by
    simp only [ho,Op.operands]
    simp only [List.mem_toArray,List.mem_map]
    exact ⟨p,hp1,rfl⟩) (h0 p hp1).1 hlow hD
  have e2:(parts.map fun (i,x)=>(i,a.eval x)).toList=(partsG ts parts).map fun p=>(p.1,ren r p.2):=by
   simp only [Array.toList_map,partsG,List.map_map]
   refine List.map_congr_left fun p hp1=>?_
   simp only [Function.comp]
   rw [(e1 p hp1).1]
  have hzi:∀ x∈z.cells,flatF x=true:=fun x hx=>by
   cases z with
   | tuple vs=>exact absurd rfl (okCells_nt hzc vs)
   | agg cs'=>exact Array.all_eq_true_iff_forall_mem.1 hzf x hx
   | _=>simp only [Value.cells] at hx;simp at hx;subst hx;exact hzf
  have hbase:∀ x∈(Array.range (len*m)).map (z.cells[·%z.cells.size]!),flatF x=true:=fun x hx=>by
   obtain ⟨j,_,rfl⟩:=Array.mem_map.1 hx
   by_cases hlt:j%z.cells.size<z.cells.size
   ·rw [getElem!_pos z.cells _ hlt];exact hzi _ (Array.getElem_mem hlt)
   ·rw [getElem!_neg z.cells _ hlt];rfl
  have hb2:((Array.range (len*m)).map (z.cells[·%z.cells.size]!)).map (renF r)=(Array.range (len*m)).map (z.cells[·%z.cells.size]!):=map_eq_self fun x hx=>flatF_ren (hbase x hx)
  have hf:=fill_of_G _ _ _ hcs
  have hparts:∀ p∈partsG ts parts,okCells p.2=true∧idsV D p.2:=fun p hp1=>by
   simp only [partsG,List.mem_map] at hp1
   obtain ⟨q,hq,rfl⟩:=hp1
   exact ⟨(h0 q hq).2,(e1 q hq).2⟩
  have hfr:=fill_ren (r:=r) _ _ _ (fun p hp1=>(hparts p hp1).1) hf
  rw [hb2,←e2] at hfr
  refine ⟨?_,fill_ids (D:=D) _ _ _ hparts (fun x hx=>flatF_ids (hbase x hx)) hf⟩
  have hne:¬len*m=0:=by omega
  have hle':¬len*m>2^24:=by omega
  simp only [execOp,ho,Instr.buildSlice,Sem.run_bind,run_underlying hu,Result.andThen_ok,run_sizeOf hm,hne,hle',if_false,run_zeroValue hz,Sem.run_pure]
  have:plAt (.inr m)=fun i=>some (i*m,m):=rfl
  rw [this] at hfr
  rw [hfr]
  simp [newRow,newObj,Sem.run,ren,renA,renF,ren0,Blk.obj]

theorem run_part {r:Nat→Nat} {T:TypeId} {cs:Array Value} {off:Nat} {v:Value} (h:loadB P T cs off=some v) (W:World):(part T (cs.map (renF r)) off).run P W=.ok (ren r v) W:=by
 unfold loadB at h
 unfold part
 cases ha:tyAgg P T with
 | none=>simp [ha] at h
 | some bb =>
  rw [Sem.run_bind,run_isAgg ha]
  simp only [Result.andThen_ok]
  cases bb with
  | true =>
   simp only [ha] at h
   cases hs:tySize P T with
   | none=>simp [hs] at h
   | some m =>
    simp only [hs] at h
    split at h
    ·cases h
     simp [Sem.run_bind,run_sizeOf hs,ren,renA]
    ·simp at h
  | false =>
   simp only [ha] at h
   cases hc:cs[off]? with
   | none=>simp [hc] at h
   | some u =>
    simp only [hc] at h
    split at h
    ·rename_i hsc
     cases h
     simp [hc,ren_scal hsc]
    ·cases h

theorem fdX_spec {T:TypeId} {f:Nat} {t:TypeId} {off:Nat} (h:fdX P T f=some (t,off)):∃ fs fd,P.underlying T=some (.struct fs)∧fs[f]? = some fd∧fd.type=t∧fd.offset=off∧∃ m,tySize P fd.type=some (m+1):=by
 unfold fdX at h
 split at h
 ·rename_i fs hu
  split at h
  ·rename_i fd hf
   split at h
   ·rename_i m hs
    cases h
    exact ⟨fs,fd,hu,hf,rfl,rfl,m,hs⟩
   ·cases h
  ·cases h
 ·cases h

theorem OpD_index {T e:TypeId} {x i:Operand} {kd:IntKind} {m:Int} {len s:Nat} {cs:Array Value} {v:Value} (ho:o.op=.index T x i) (hx:okX ts hp x) (hi:okX ts hp i) (hgi:gev ts i=.int kd m)
  (hu:P.underlying T=some (.array len e)) (hg:gev ts x=.agg cs) (h0:0≤m) (hl:m<len) (hs:tySize P e=some s) (hv:loadB P e cs (m.toNat*s)=some v) :
  OpD P o ts (rst hp (val v []).rs) (val v []) :=
 OpD_val fun r D a W hR _ hlow hD=>by
  have h1:=evR hR (x:=x) (by simp [ho,Op.operands]) hx hlow hD
  have h2:=evR hR (x:=i) (by simp [ho,Op.operands]) hi hlow hD
  rw [hg] at h1
  rw [hgi] at h2
  have h3:a.eval x=.agg (cs.map (renF r)):=h1.1
  have h4:a.eval i=.int kd m:=h2.1
  refine ⟨?_,loadB_ids hv h1.2⟩
  have:=run_part (r:=r) hv W
  simp [execOp,ho,Instr.index,h3,h4,asIntOf,run_underlying hu,h0,hl,run_sizeOf hs,this]

theorem OpD_indexStr {T:TypeId} {x i:Operand} {kd:IntKind} {m:Int} {s:ByteArray} {b:UInt8} (ho:o.op=.index T x i) (hx:okX ts hp x) (hi:okX ts hp i) (hgi:gev ts i=.int kd m)
  (hu:P.underlying T=some .string) (hg:gev ts x=.string s) (hb:(if 0≤m then s[m.toNat]? else none)=some b) :
  OpD P o ts (rst hp (val (.int .u8 b.toNat) []).rs) (val (.int .u8 b.toNat) []) :=
 OpD_val fun r D a W hR _ hlow hD=>by
  have h1:=evR hR (x:=x) (by simp [ho,Op.operands]) hx hlow hD
  have h2:=evR hR (x:=i) (by simp [ho,Op.operands]) hi hlow hD
  rw [hg] at h1
  rw [hgi] at h2
  have h3:a.eval x=.string s:=h1.1
  have h4:a.eval i=.int kd m:=h2.1
  refine ⟨?_,trivial⟩
  simp [execOp,ho,Instr.index,h3,h4,asIntOf,run_underlying hu,hb,ren,renA,renF,ren0]

theorem OpD_field {T t:TypeId} {x:Operand} {f off:Nat} {cs:Array Value} {v:Value} (ho:o.op=.field T x f) (hx:okX ts hp x) (hf:fdX P T f=some (t,off)) (hg:gev ts x=.agg cs) (hv:loadB P t cs off=some v) :
  OpD P o ts (rst hp (val v []).rs) (val v []) :=
 OpD_val fun r D a W hR _ hlow hD=>by
  have h1:=evR hR (x:=x) (by simp [ho,Op.operands]) hx hlow hD
  rw [hg] at h1
  obtain ⟨fs,fd,hu,hfd,rfl,rfl,_⟩:=fdX_spec hf
  have h3:a.eval x=.agg (cs.map (renF r)):=h1.1
  refine ⟨?_,loadB_ids hv h1.2⟩
  have:=run_part (r:=r) hv W
  simp [execOp,ho,Instr.field,h3,asAgg,run_underlying hu,hfd,this]

theorem OpD_fieldAddr {T t:TypeId} {x:Operand} {f off k oo:Nat} (ho:o.op=.fieldAddr T x f) (hx:okX ts hp x) (hf:fdX P T f=some (t,off)) (hg:gev ts x=.pointer (some ⟨k,oo,none⟩)) :
  OpD P o ts (rst hp (val (.pointer (some ⟨k,oo+off,none⟩)) []).rs) (val (.pointer (some ⟨k,oo+off,none⟩)) []) :=
 OpD_val fun r D a W hR _ hlow hD=>by
  have h1:=evR hR (x:=x) (by simp [ho,Op.operands]) hx hlow hD
  rw [hg] at h1
  obtain ⟨fs,fd,hu,hfd,rfl,rfl,m,hs⟩:=fdX_spec hf
  have h3:a.eval x=.pointer (some ⟨r k,oo,none⟩):=h1.1
  refine ⟨?_,by simpa [idsV,idsA,idsF,ids0] using h1.2⟩
  simp [execOp,ho,Instr.fieldAt,h3,Instr.sureAddr,run_underlying hu,hfd,fieldPlace,run_sizeOf hs,Addr_add,ren,renA,renF,ren0]

theorem OpD_nilCheck {x:Operand} {k oo:Nat} (ho:o.op=.nilCheck x) (hx:okX ts hp x) (hg:gev ts x=.pointer (some ⟨k,oo,none⟩)) :
  OpD P o ts (rst hp (val (.pointer (some ⟨k,oo,none⟩)) []).rs) (val (.pointer (some ⟨k,oo,none⟩)) []) :=
 OpD_val fun r D a W hR _ hlow hD=>by
  have h1:=evR hR (x:=x) (by simp [ho,Op.operands]) hx hlow hD
  rw [hg] at h1
  have h3:a.eval x=.pointer (some ⟨r k,oo,none⟩):=h1.1
  refine ⟨?_,h1.2⟩
  simp [execOp,ho,h3,ren,renA,renF,ren0]

theorem wrap_small (l:Int) (h0:0<l) (h1:l≤4096):IntKind.i64.wrap l=l:=by
 simp only [IntKind.wrap,IntKind.bits,IntKind.signed]
 simp
 omega
theorem OpD_makeSlice {T e:TypeId} {m b:Nat} {l:Int} {x y:Operand} {z:Value} (ho:o.op=.makeSlice T x y) (h0:okX ts hp x) (h1:okX ts hp y) (hx:gev ts x=.int .i64 l) (hy:gev ts y=.int .i64 l)
  (hu:P.underlying T=some (.slice e)) (hm:tySize P e=some m) (hz:tyZero P e=some z) (hb:tyB P e=some b) (hzc:okCells z=true) (hzf:flatV z=true) (hl0:0<l) (hl1:l≤4096) (hb1:b≤4096) (hpos:0<m) :
  OpD P o ts (rst hp (Eff.mk (.slice (some ⟨nk,0,none⟩) l.toNat l.toNat) [] [] [(nk,⟨(Array.range (l.toNat*m)).map (z.cells[·%z.cells.size]!),e⟩)] none false).rs) ⟨.slice (some ⟨nk,0,none⟩) l.toNat l.toNat,[],[],[(nk,⟨(Array.range (l.toNat*m)).map (z.cells[·%z.cells.size]!),e⟩)],none,false⟩ :=
 OpD_newV (by simp [idsV,idsA,idsF,ids0]) fun r D a W hR _ hlow hD=>by
  have e1:=evR hR (x:=x) (by simp [ho,Op.operands]) h0 hlow hD
  have e2:=evR hR (x:=y) (by simp [ho,Op.operands]) h1 hlow hD
  rw [hx] at e1
  rw [hy] at e2
  have e1:a.eval x=.int .i64 l:=e1.1
  have e2:a.eval y=.int .i64 l:=e2.1
  have hzi:∀ x∈z.cells,flatF x=true:=fun x hx=>by
   cases z with
   | tuple vs=>exact absurd rfl (okCells_nt hzc vs)
   | agg cs'=>exact Array.all_eq_true_iff_forall_mem.1 hzf x hx
   | _=>simp only [Value.cells] at hx;simp at hx;subst hx;exact hzf
  have hbase:∀ x∈(Array.range (l.toNat*m)).map (z.cells[·%z.cells.size]!),flatF x=true:=fun x hx=>by
   obtain ⟨j,_,rfl⟩:=Array.mem_map.1 hx
   by_cases hlt:j%z.cells.size<z.cells.size
   ·rw [getElem!_pos z.cells _ hlt];exact hzi _ (Array.getElem_mem hlt)
   ·rw [getElem!_neg z.cells _ hlt];rfl
  have hb2:((Array.range (l.toNat*m)).map (z.cells[·%z.cells.size]!)).map (renF r)=(Array.range (l.toNat*m)).map (z.cells[·%z.cells.size]!):=map_eq_self fun x hx=>flatF_ren (hbase x hx)
  refine ⟨?_,fun x hx=>flatF_ids (hbase x hx)⟩
  have hw:IntKind.i64.wrap l=l:=wrap_small l hl0 hl1
  have hbl:(b:Int)*l≤16777216:=by
   have:=Int.mul_le_mul (a:=(b:Int)) (b:=l) (c:=4096) (d:=4096) (by omega) hl1 (by omega) (by omega)
   omega
  have hbn:l.toNat*b≤16777216:=by
   have:=Nat.mul_le_mul (show l.toNat≤4096 by omega) hb1
   omega
  have t1:(decide (l<0)||decide ((b:Int)*l>2^48))=false:=by
   rw [Bool.or_eq_false_iff]
   exact ⟨decide_eq_false (by omega),decide_eq_false (by omega)⟩
  have t2:¬l.toNat*b>roomBytes:=by unfold roomBytes;omega
  have t3:¬l.toNat*m=0:=by
   have:=Nat.mul_pos (show 0<l.toNat by omega) hpos
   omega
  unfold tyB at hb
  cases hi:P.info? e with
  | none=>rw [hi] at hb;cases hb
  | some i =>
   rw [hi] at hb
   simp only [Option.map_some,Option.some.injEq] at hb
   subst hb
   have hty:∀ W,(typeInfo e).run P W=.ok i W:=fun W=>by simp [typeInfo,hi]
   simp only [execOp,ho,Instr.makeSlice,e1,e2,asInt,asIntOf,Sem.run_bind,run_underlying hu,Result.andThen_ok,run_sizeOf hm,hty,Sem.run_pure,hw,t1]
   have t5:(decide (l<0))=false:=decide_eq_false (by omega)
   have t6:(decide (l>l))=false:=decide_eq_false (by omega)
   simp [askRoom,t2,t3,t5,t6,run_sizeOf hm,run_zeroValue hz,newRow,newObj,Sem.run,ren,renA,renF,ren0,Blk.obj,hb2]
theorem run_bound {y:Nat} {k:IntKind} {m:Int} {c:BoundsCode} (h:0≤m∧m≤y) (W:World):(Instr.sliceBound (.int k m) y c).run P W=.ok m.toNat W:=by
 simp [Instr.sliceBound,asIntOf,h]
theorem run_sliceBounds {b:Bool} {len cap l h:Nat} {lo hi:Option Value} (hs:sliceG len cap lo hi=some (l,h)) (W:World):(Instr.sliceBounds b len cap lo hi none).run P W=.ok (l,h,cap) W:=by
 unfold sliceG at hs
 cases hh:hiG len cap hi with
 | none=>rw [hh] at hs;cases hs
 | some h' =>
  rw [hh] at hs
  simp only [Option.map_eq_some_iff] at hs
  obtain ⟨l',hl,e⟩:=hs
  cases e
  unfold Instr.sliceBounds
  cases hi with
  | none =>
   simp only [hiG,Option.some.injEq] at hh;subst hh
   cases lo with
   | none=>simp only [loG,Option.some.injEq] at hl;subst hl;simp
   | some v =>
    cases v<;>simp only [loG] at hl<;>first|(cases hl;done)|skip
    split at hl
    ·rename_i hc
     cases hl
     simp [run_bound hc]
    ·cases hl
  | some u =>
   cases u<;>simp only [hiG] at hh<;>first|(cases hh;done)|skip
   split at hh
   ·rename_i hd
    cases hh
    cases lo with
    | none=>simp only [loG,Option.some.injEq] at hl;subst hl;simp [run_bound hd]
    | some v =>
     cases v<;>simp only [loG] at hl<;>first|(cases hl;done)|skip
     split at hl
     ·rename_i hc
      cases hl
      simp [run_bound hd,run_bound hc]
     ·cases hl
   ·cases hh

theorem sliceG_int {len cap:Nat} {lo hi:Option Value} {p:Nat×Nat} (h:sliceG len cap lo hi=some p):(∀ v,lo=some v→flatV v=true)∧(∀ v,hi=some v→flatV v=true):=by
 unfold sliceG at h
 split at h
 ·cases h
 ·rename_i h' hh
  refine ⟨fun v e=>?_,fun v e=>?_⟩
  ·subst e
   cases v<;>first|rfl|(simp [loG] at h)
  ·subst e
   cases v<;>first|rfl|(simp [hiG] at hh)

theorem slV_spec {a:Option (Nat×Nat)} {s c:Nat} {p:Option (Nat×Nat)} {v:Value} (h:slV a s c p=some v):∃ l hh,p=some (l,hh)∧v=.slice (a.map fun p=>⟨p.1,if c=l then p.2 else p.2+l*s,none⟩) (hh - l) (c - l):=by
 unfold slV at h
 split at h
 ·rename_i l hh
  cases h;exact ⟨l,hh,rfl,rfl⟩
 ·cases h

theorem OpD_slice {T:TypeId} {x:Operand} {lo hi mx:Option Operand} {v:Value} (ho:o.op=.slice T x lo hi mx) (hx:okX ts hp x) (hlo:∀ y∈lo.toList,okX ts hp y) (hhi:∀ y∈hi.toList,okX ts hp y) (hmx:mx.isNone=true)
  (hv:slX P T (gev ts x) (lo.map (gev ts)) (hi.map (gev ts))=some v):OpD P o ts (rst hp (val v []).rs) (val v []) :=
 OpD_val fun r D a W hR _ hlow hD=>by
  obtain rfl:mx=none:=by cases mx<;>simp_all
  have h1:=evR hR (x:=x) (by simp [ho,Op.operands]) hx hlow hD
  have key:∀ {n c:Nat} {p:Nat×Nat},sliceG n c (lo.map (gev ts)) (hi.map (gev ts))=some p→lo.map a.eval=lo.map (gev ts)∧hi.map a.eval=hi.map (gev ts):=fun {n c p} hp1=>by
   obtain ⟨f1,f2⟩:=sliceG_int hp1
   constructor
   ·cases lo with
    | none=>rfl
    | some y =>
     simp only [Option.map_some] at f1 ⊢
     rw [(evR hR (x:=y) (by simp [ho,Op.operands]) (hlo y (by simp)) hlow hD).1,flatV_ren (f1 _ rfl)]
   ·cases hi with
    | none=>rfl
    | some y =>
     simp only [Option.map_some] at f2 ⊢
     rw [(evR hR (x:=y) (by simp [ho,Op.operands]) (hhi y (by simp)) hlow hD).1,flatV_ren (f2 _ rfl)]
  have ifs:∀ (c l k o1 o2:Nat),(if c=l then (⟨k,o1,none⟩:Addr) else ⟨k,o2,none⟩)=⟨k,if c=l then o1 else o2,none⟩:=fun c l k o1 o2=>by split<;>rfl
  unfold slX at hv
  split at hv
  ·rename_i n e hu
   split at hv
   ·rename_i k off hg
    split at hv
    ·rename_i s hs
     obtain ⟨l,hh,hp1,rfl⟩:=slV_spec hv
     obtain ⟨q1,q2⟩:=key hp1
     rw [hg] at h1
     have h3:a.eval x=.pointer (some ⟨r k,off,none⟩):=h1.1
     refine ⟨?_,by simpa [idsV,idsA,idsF,ids0] using h1.2⟩
     have e1:=run_sliceBounds (P:=P) (b:=false) hp1 W
     simp only [execOp,ho,Option.map_none,q1,q2,h3,Instr.sliceAt,Sem.run_bind,run_underlying hu,Result.andThen_ok,Instr.sureAddr,Sem.run_pure,e1,run_sizeOf hs,Addr_add]
     simp [ren,renA,renF,ren0,ifs]
    ·cases hv
   ·cases hv
  ·rename_i e hu
   split at hv
   ·rename_i k off n c hg
    split at hv
    ·rename_i s hs
     obtain ⟨l,hh,hp1,rfl⟩:=slV_spec hv
     obtain ⟨q1,q2⟩:=key hp1
     rw [hg] at h1
     have h3:a.eval x=.slice (some ⟨r k,off,none⟩) n c:=h1.1
     refine ⟨?_,by simpa [idsV,idsA,idsF,ids0] using h1.2⟩
     have e1:=run_sliceBounds (P:=P) (b:=true) hp1 W
     simp only [execOp,ho,Option.map_none,q1,q2,h3,Instr.sliceAt,Instr.slice,Sem.run_bind,run_underlying hu,Result.andThen_ok,Sem.run_pure,e1,run_sizeOf hs]
     simp [ren,renA,renF,ren0,Addr_add]
     split<;>rfl
    ·cases hv
   ·rename_i n c hg
    split at hv
    ·rename_i s hs
     obtain ⟨l,hh,hp1,rfl⟩:=slV_spec hv
     obtain ⟨q1,q2⟩:=key hp1
     rw [hg] at h1
     have h3:a.eval x=.slice none n c:=h1.1
     refine ⟨?_,by trivial⟩
     have e1:=run_sliceBounds (P:=P) (b:=true) hp1 W
     simp only [execOp,ho,Option.map_none,q1,q2,h3,Instr.sliceAt,Instr.slice,Sem.run_bind,run_underlying hu,Result.andThen_ok,Sem.run_pure,e1,run_sizeOf hs]
     simp [ren,renA,renF,ren0]
    ·cases hv
   ·cases hv
  ·rename_i hu
   split at hv
   ·rename_i s hg
    unfold slS at hv
    split at hv
    ·rename_i l hh hp1
     cases hv
     obtain ⟨q1,q2⟩:=key hp1
     rw [hg] at h1
     have h3:a.eval x=.string s:=h1.1
     refine ⟨?_,by trivial⟩
     have e1:=run_sliceBounds (P:=P) (b:=false) hp1 W
     simp only [execOp,ho,Option.map_none,q1,q2,h3,Instr.sliceAt,Instr.slice,Sem.run_bind,run_underlying hu,Result.andThen_ok,Sem.run_pure]
     simp [Sem.run_bind,e1,ren,renA,renF,ren0]
    ·cases hv
   ·cases hv
  ·cases hv

theorem OpD_arr {T:TypeId} {x:Operand} {v:Value} (ho:o.op=.sliceToArrayPointer T x) (hx:okX ts hp x) (hv:arrX P T (gev ts x)=some v):OpD P o ts (rst hp (val v []).rs) (val v []) :=
 OpD_val fun r D a W hR _ hlow hD=>by
  have h1:=evR hR (x:=x) (by simp [ho,Op.operands]) hx hlow hD
  unfold arrX at hv
  split at hv
  ·rename_i n e hu
   split at hv
   ·rename_i ad len c hg
    split at hv
    ·rename_i hle
     cases hv
     rw [hg] at h1
     have hn:¬len<n:=by omega
     cases ad with
     | none =>
      have h3:a.eval x=.slice none len c:=h1.1
      exact ⟨by simp [execOp,ho,Instr.arrayAt,h3,run_underlying hu,hn,ren,renA,renF,ren0],by trivial⟩
     | some ad =>
      have h3:a.eval x=.slice (some { ad with block:=r ad.block }) len c:=h1.1
      exact ⟨by simp [execOp,ho,Instr.arrayAt,h3,run_underlying hu,hn,ren,renA,renF,ren0],by simpa [idsV,idsA,idsF,ids0] using h1.2⟩
    ·cases hv
   ·cases hv
  ·cases hv

theorem lenX_run {r:Nat→Nat} {T t:TypeId} {u v:Value} (h:lenX P T u=some v) (W:World):(Builtin.len_ #[T] t #[ren r u]).run P W=.ok v W∧flatV v=true:=by
 unfold lenX at h
 split at h
 ·rename_i hu
  split at h
  ·cases h
   exact ⟨by simp [Builtin.len_,run_underlying hu,ren,renA,renF,ren0,goInt],rfl⟩
  ·cases h
 ·rename_i n e hu
  cases h
  exact ⟨by simp [Builtin.len_,run_underlying hu,goInt],rfl⟩
 ·rename_i e hu
  split at h
  ·rename_i ad n c
   cases h
   cases ad<;>exact ⟨by simp [Builtin.len_,run_underlying hu,ren,renA,renF,ren0,goInt],rfl⟩
  ·cases h
 ·cases h
theorem maxF_flat {b:Bool}:∀ {l:List Value} {x v:Value},maxF b x l=some v→flatV x=true∧(∀ x∈l,flatV x=true)∧flatV v=true
 | [],x,v,h=>by
  cases x<;>simp only [maxF,maxE] at h<;>first|(cases h;done)|skip
  cases h;exact ⟨rfl,by simp,rfl⟩
 | y::l,x,v,h=>by
  simp only [maxF] at h
  split at h
  ·rename_i z hz
   have ih:=maxF_flat h
   unfold max2G at hz
   split at hz
   ·cases hz
    exact ⟨rfl,fun q hq=>by
     simp only [List.mem_cons] at hq
     rcases hq with rfl|hq
     ·rfl
     ·exact ih.2.1 q hq,ih.2.2⟩
   ·cases hz
  ·cases h
theorem maxG_flat {b:Bool} {l:List Value} {v:Value} (h:maxG b l=some v):(∀ x∈l,flatV x=true)∧flatV v=true:=by
 cases l with
 | nil=>cases h
 | cons x l =>
  have:=maxF_flat h
  exact ⟨fun q hq=>by
   simp only [List.mem_cons] at hq
   rcases hq with rfl|hq
   ·exact this.1
   ·exact this.2.1 q hq,this.2.2⟩
theorem maxF_run:∀ {l:List Value} {x v:Value} (W:World),maxF true x l=some v→(l.foldlM Builtin.max2 x).run P W=.ok v W
 | [],x,v,W,h=>by
  cases x<;>simp only [maxF,maxE] at h<;>first|(cases h;done)|skip
  cases h;rfl
 | y::l,x,v,W,h=>by
  simp only [maxF] at h
  split at h
  ·rename_i z hz
   have hr:=maxF_run W h
   unfold max2G at hz
   split at hz
   ·cases hz
    simp only [if_true] at hr
    simp only [List.foldlM_cons,Sem.run_bind,Builtin.max2,Sem.run_pure,Result.andThen_ok]
    exact hr
   ·cases hz
  ·cases h
theorem minF_run:∀ {l:List Value} {x v:Value} (W:World),maxF false x l=some v→(l.foldlM Builtin.min2 x).run P W=.ok v W
 | [],x,v,W,h=>by
  cases x<;>simp only [maxF,maxE] at h<;>first|(cases h;done)|skip
  cases h;rfl
 | y::l,x,v,W,h=>by
  simp only [maxF] at h
  split at h
  ·rename_i z hz
   have hr:=minF_run W h
   unfold max2G at hz
   split at hz
   ·cases hz
    simp only [Bool.false_eq_true,if_false] at hr
    simp only [List.foldlM_cons,Sem.run_bind,Builtin.min2,Sem.run_pure,Result.andThen_ok]
    exact hr
   ·cases hz
  ·cases h
theorem max_run {l:List Value} {v:Value} (W:World) (h:maxG true l=some v):∃ x rest,l=x::rest∧(rest.foldlM Builtin.max2 x).run P W=.ok v W:=by
 cases l with
 | nil=>cases h
 | cons x l=>exact ⟨x,l,rfl,maxF_run W h⟩
theorem min_run {l:List Value} {v:Value} (W:World) (h:maxG false l=some v):∃ x rest,l=x::rest∧(rest.foldlM Builtin.min2 x).run P W=.ok v W:=by
 cases l with
 | nil=>cases h
 | cons x l=>exact ⟨x,l,rfl,minF_run W h⟩
theorem OpD_built {c:Call} {v:Value} (ho:o.op=.call c) (hx:∀ x∈c.args.toList,okX ts hp x) (hv:builtX P ts c=some v):OpD P o ts (rst hp (val v []).rs) (val v []) :=
 OpD_val fun r D a W hR _ hlow hD=>by
  have hev:∀ x∈c.args,a.eval x=ren r (gev ts x):=fun x hx1=>(evR hR (x:=x) (by simp [ho,Op.operands,Call.operands,hx1]) (hx x (by simpa using hx1)) hlow hD).1
  have hlist:c.args.toList.map a.eval=c.args.toList.map fun x=>ren r (gev ts x):=List.map_congr_left fun x hx1=>hev x (by simpa using hx1)
  have fl:∀ {b:Bool},maxG b (c.args.toList.map (gev ts))=some v→(c.args.map a.eval).toList=c.args.toList.map (gev ts):=fun {b} h=>by
   rw [Array.toList_map,hlist]
   exact List.map_congr_left fun x hx1=>flatV_ren ((maxG_flat h).1 _ (List.mem_map.2 ⟨x,hx1,rfl⟩))
  unfold builtX at hv
  split at hv
  ·rename_i hc
   split at hv
   ·rename_i x T h1 h2
    have e1:c.args=#[x]:=by rw [←Array.toArray_toList (xs:=c.args),h1]
    have e2:c.argTypes=#[T]:=by rw [←Array.toArray_toList (xs:=c.argTypes),h2]
    have e3:=lenX_run (P:=P) (r:=r) (t:=o.type) hv W
    refine ⟨?_,flatV_ids e3.2⟩
    have e4:=hev x (by rw [e1];simp)
    simp only [execOp,ho,resolve,hc,Sem.run_bind,Sem.run_pure,Result.andThen_ok,invoke,builtin,e1,e2,flatV_ren e3.2]
    simp only [List.map_toArray,List.map_cons,List.map_nil,e4,e3.1,Result.andThen_ok]
   ·cases hv
  ·rename_i hc
   have e3:=maxG_flat hv
   refine ⟨?_,flatV_ids e3.2⟩
   obtain ⟨x,rest,e5,e6⟩:=max_run (P:=P) W hv
   have e4:=fl hv
   simp only [execOp,ho,resolve,hc,Sem.run_bind,Sem.run_pure,Result.andThen_ok,invoke,builtin,Builtin.max_,e4,e5,e6,flatV_ren e3.2]
  ·rename_i hc
   have e3:=maxG_flat hv
   refine ⟨?_,flatV_ids e3.2⟩
   obtain ⟨x,rest,e5,e6⟩:=min_run (P:=P) W hv
   have e4:=fl hv
   simp only [execOp,ho,resolve,hc,Sem.run_bind,Sem.run_pure,Result.andThen_ok,invoke,builtin,Builtin.min_,e4,e5,e6,flatV_ren e3.2]
  ·cases hv

def unD (o:Oper) (ts:Nat→Value):Prop :=
 match o.op with
 | .call c=>match c.callee with
  | .value (.tmp t)=>ts t=undef
  | .value (.func _)=>True
  | .builtin _=>True
  | _=>False
 | _=>True
def unC (P:Program) (o:Oper):Prop :=
 match o.op with
 | .call c=>match c.callee with
  | .value (.func f)=>∃ fn,P.funcs[f]? = some fn
  | _=>True
 | _=>True

def okp (P:Program) (Y:Option YG):OKP where
 ok o ts yc hp e:=(e.yl=false∧OpD P o ts hp e)∨(e.yl=true∧OpY Y o ts yc e)
 congr o ts ts' yc yc' hp e ht hy h:=by
  rcases h with ⟨h1,h2⟩|⟨h1,y,f,args,T,h2,h3,h4,h5,h6,h7,h8,h9⟩
  ·exact .inl ⟨h1,h2.congr ht⟩
  ·have hm:∀ x∈o.op.operands,gev ts x=gev ts' x:=fun x hx=>by
    cases x<;>first|rfl|exact ht _ hx
   have hk:∀ x∈o.op.operands,okT ts x→okT ts' x:=fun x hx h=>by
    cases x<;>first|exact h|(have:=ht _ hx;simp only [okT] at h ⊢;rwa [←this])
   have hf:f∈o.op.operands:=by simp [h3,Op.operands,Call.operands]
   have ha:∀ x∈args,x∈o.op.operands:=fun x hx=>by simp [h3,Op.operands,Call.operands,hx]
   refine .inr ⟨h1,y,f,args,T,h2,h3,hk f hf h4,fun x hx=>⟨hk x (ha x (by simpa using hx)) (h5 x hx).1,by rw [←hm x (ha x (by simpa using hx))];exact (h5 x hx).2⟩,by rw [←hm f hf];exact h6,by rw [←hy h1];exact h7,?_,by rw [←hy h1];exact h9⟩
   rw [←hy h1,h8]
   congr 1
   exact Array.map_congr_left fun x hx=>hm x (ha x hx)
 un o ts:=unD o ts∧unC P o
 uncongr o ts ts' ht h:=by
  refine ⟨?_,h.2⟩
  have h1:=h.1
  unfold unD at *
  split
  ·rename_i c hc
   simp only [hc] at h1
   cases hcc:c.callee with
   | value x =>
    simp only [hcc] at h1 ⊢
    cases x with
    | tmp t=>simp only at h1 ⊢;rw [←ht t (by simp [hc,hcc,Op.operands,Call.operands])];exact h1
    | func f=>trivial
    | _=>exact h1.elim
   | invoke x m=>simp only [hcc] at h1
   | builtin b=>trivial
  ·trivial

theorem meetsU {Y:Option YG}:MeetsU P (okp P Y):=by
 intro o ts r D a W hR hu f hf
 obtain ⟨h1,h2⟩:=hu
 unfold Oper.about at hf
 unfold unD at h1
 unfold unC at h2
 split at hf
 ·rename_i c hc
  simp only [hc] at h1 h2
  cases hcc:c.callee with
  | value x =>
   simp only [hcc] at h1 h2
   cases x with
   | tmp t =>
    simp only at h1
    have:=((hR t).resolve_left (by rw [h1];simp [undef,junk])).1
    rw [h1,ren_undef] at this
    have he:a.eval (.tmp t)=undef:=this
    simp [resolve,hcc,he,Deferred.ofValue,undef,stuck] at hf
   | func g =>
    simp only at h2
    simp [resolve,hcc,Act.eval,Deferred.ofValue,Target.leads] at hf
    subst hf;exact h2
   | _=>exact h1.elim
  | invoke x m=>simp only [hcc] at h1
  | builtin b=>simp [resolve,hcc,Target.leads] at hf
 ·cases hf
theorem RetP_call {c:Call} {f:Operand} {g:FuncId} {first cap:Array Value} {oc:Out} (hGF:GFlat G) (hG:∀ k,k<100→hp k=G k) (ho:o.op=.call c) (hc:c.callee=.value f) (hf:okX ts hp f) (hgf:gev ts f=.func (.func g) first cap)
  (hfi:first.size=0) (hca:cap.size=0) (ha:∀ x∈c.args.toList,okX ts hp x) (hr:RetP P G g (c.args.map (gev ts)) oc):OpD P o ts (rst hp oc.eff.rs) oc.eff:=by
 have ers:oc.eff.rs=[]:=by cases oc<;>rfl
 rw [ers]
 intro r D a W hR hS _ hlow hD _
 have hfl:∀ x∈c.args.map (gev ts),flatV x=true:=hr.2.1
 obtain rfl:first=#[]:=by cases first;simpa using hfi
 obtain rfl:cap=#[]:=by cases cap;simpa using hca
 have h1:=evR (rs:=[]) hR (x:=f) (by simp [ho,hc,Op.operands,Call.operands]) hf hlow hD
 rw [hgf] at h1
 have h3:a.eval f=.func (.func g) #[] #[]:=by rw [h1.1];simp [ren,renA,renF]
 have hargs:c.args.map a.eval=c.args.map (gev ts):=Array.map_congr_left fun x hx=>by
  rw [(evR (rs:=[]) hR (x:=x) (by simp [ho,Op.operands,Call.operands,hx]) (ha x (by simpa using hx)) hlow hD).1]
  exact flatV_ren (hfl _ (Array.mem_map.2 ⟨x,hx,rfl⟩))
 obtain ⟨hv,_,hen,hcall⟩:=hr
 have hrun:(execOp a.eval o).run P W=.ok (.enter g (c.args.map (gev ts))) W:=by
  simp [execOp,ho,resolve,hc,h3,Deferred.ofValue,invoke,hargs,hen]
 have hgok:GOK G W:=gok_of hGF hG hS hlow hD
 unfold Upon
 rw [hrun]
 refine (hcall W hgok).mono fun e W'' he=>?_
 cases oc with
 | ret v =>
  obtain ⟨rfl,hb⟩:=he
  have hv:=hv v rfl
  exact ⟨rfl,r,fun _ _=>rfl,(flatV_ren hv).symm,flatV_ids hv,Turn.of_below hb⟩
 | pan v =>
  obtain ⟨rfl,hb⟩:=he
  exact ⟨v,rfl,rfl,hb⟩
theorem OpD_panic {x:Operand} {T:TypeId} {u:Value} (ho:o.op=.panic x) (hx:okX ts hp x) (hf:flatV (gev ts x)=true) (hg:gev ts x=.iface T u):OpD P o ts (rst hp []) ⟨junk,[],[],[],some (.iface T u),false⟩:=by
 intro r D a W hR _ _ hlow hD _
 have h1:=evR (rs:=[]) hR (x:=x) (by simp [ho,Op.operands]) hx hlow hD
 have h2:a.eval x=.iface T u:=by rw [h1.1,flatV_ren hf,hg]
 unfold Upon
 have:(execOp a.eval o).run P W=.halt (.panic (.iface T u)) W:=by
  simp [execOp,ho,h2,Instr.panic]
 rw [this]
 exact ⟨by simp [Oper.about,ho],rfl,Below.refl _ _⟩

theorem opX_sound {C:Eff→Prop} (hGF:GFlat G) (hG:∀ k,k<100→hp k=G k) (h:opX P G V yc o ts hp nk C):∃ e,(okp P V.Y).ok o ts yc (rst hp e.rs) e∧Shape hp nk e∧C e:=by
 unfold opX at h
 split at h
 case h_1 x ho=>exact ⟨_,.inl ⟨rfl,OpD_move (.inl ho) h.1⟩,.val,h.2⟩
 case h_2 x ho=>exact ⟨_,.inl ⟨rfl,OpD_move (.inr ho) h.1⟩,.val,h.2⟩
 case h_3 c x y ho =>
  obtain ⟨h0,h⟩:=h
  split at h
  ·rename_i b hb
   exact ⟨_,.inl ⟨rfl,OpD_pick ho h0 hb h.1 h.2.1⟩,.val,h.2.2⟩
  ·exact h.elim
 case h_4 T ho =>
  split at h
  ·rename_i z hz
   exact ⟨_,.inl ⟨rfl,OpD_alloc ho hz h.1 h.2.1⟩,.new,h.2.2⟩
  ·exact h.elim
 case h_5 T x ho=>exact ⟨_,.inl ⟨rfl,OpD_box ho h.1 h.2.1⟩,.new,h.2.2⟩
 case h_6 T x ho =>
  obtain ⟨h0,h⟩:=h
  split at h
  ·rename_i k off hg
   split at h
   ·rename_i b hb
    split at h
    ·rename_i v hv
     exact ⟨_,.inl ⟨rfl,OpD_load ho h0 hg hb hv⟩,.val,h⟩
    ·exact h.elim
   ·exact h.elim
  ·exact h.elim
 case h_7 T x y ho =>
  obtain ⟨h0,h0',h⟩:=h
  split at h
  ·rename_i k off hg
   split at h
   ·rename_i b hb
    obtain ⟨hown,h1,h2,h3,h4,h5⟩:=h
    exact ⟨_,.inl ⟨rfl,OpD_store ho h0 h0' hg hb hown h1 h2 h3⟩,.wr (by unfold dom;rw [hb];simp) h4,h5⟩
   ·exact h.elim
  ·exact h.elim
 case h_8 x i ho =>
  obtain ⟨h0,h⟩:=h
  split at h
  ·rename_i vs hg
   split at h
   ·rename_i v hv
    exact ⟨_,.inl ⟨rfl,OpD_extract ho h0 hg hv h.1⟩,.val,h.2⟩
   ·exact h.elim
  ·exact h.elim
 case h_9 T x i ho =>
  obtain ⟨h0,h0',h⟩:=h
  split at h
  ·rename_i kd m hgi
   split at h
   ·rename_i len e hu
    split at h
    ·rename_i k off hg
     obtain ⟨⟨h1,h2⟩,h⟩:=h
     split at h
     ·rename_i s hs
      exact ⟨_,.inl ⟨rfl,OpD_indexA ho h0 h0' hgi hu hg h1 h2 hs⟩,.val,h⟩
     ·exact h.elim
    ·exact h.elim
   ·rename_i e hu
    split at h
    ·rename_i k off len cap hg
     obtain ⟨⟨h1,h2⟩,h⟩:=h
     split at h
     ·rename_i s hs
      exact ⟨_,.inl ⟨rfl,OpD_indexS ho h0 h0' hgi hu hg h1 h2 hs⟩,.val,h⟩
     ·exact h.elim
    ·exact h.elim
   ·exact h.elim
  ·exact h.elim
 case h_10 T x i ho =>
  obtain ⟨h0,h0',h⟩:=h
  split at h
  ·rename_i kd m hgi
   split at h
   ·rename_i len e hu
    split at h
    ·rename_i cs hg
     obtain ⟨⟨h1,h2⟩,h⟩:=h
     split at h
     ·rename_i s hs
      split at h
      ·rename_i v hv
       exact ⟨_,.inl ⟨rfl,OpD_index ho h0 h0' hgi hu hg h1 h2 hs hv⟩,.val,h⟩
      ·exact h.elim
     ·exact h.elim
    ·exact h.elim
   ·rename_i hu
    split at h
    ·rename_i s hg
     split at h
     ·rename_i b hb
      exact ⟨_,.inl ⟨rfl,OpD_indexStr ho h0 h0' hgi hu hg hb⟩,.val,h⟩
     ·exact h.elim
    ·exact h.elim
   ·exact h.elim
  ·exact h.elim
 case h_11 T x f ho =>
  obtain ⟨h0,h⟩:=h
  split at h
  ·rename_i t off hf
   split at h
   ·rename_i cs hg
    split at h
    ·rename_i v hv
     exact ⟨_,.inl ⟨rfl,OpD_field ho h0 hf hg hv⟩,.val,h⟩
    ·exact h.elim
   ·exact h.elim
  ·exact h.elim
 case h_12 T x f ho =>
  obtain ⟨h0,h⟩:=h
  split at h
  ·rename_i t off hf
   split at h
   ·rename_i k oo hg
    exact ⟨_,.inl ⟨rfl,OpD_fieldAddr ho h0 hf hg⟩,.val,h⟩
   ·exact h.elim
  ·exact h.elim
 case h_13 T x lo hi mx ho =>
  obtain ⟨h0,h1,h2,h3,h⟩:=h
  split at h
  ·rename_i v hv
   exact ⟨_,.inl ⟨rfl,OpD_slice ho h0 h1 h2 h3 hv⟩,.val,h⟩
  ·exact h.elim
 case h_14 T x ho =>
  obtain ⟨h0,h⟩:=h
  split at h
  ·rename_i v hv
   exact ⟨_,.inl ⟨rfl,OpD_arr ho h0 hv⟩,.val,h⟩
  ·exact h.elim
 case h_15 fn first cap ho=>exact ⟨_,.inl ⟨rfl,OpD_makeFunc ho h.1 h.2.1⟩,.val,h.2.2⟩
 case h_16 T parts ho =>
  obtain ⟨h0,h⟩:=h
  split at h
  ·rename_i z hz
   obtain ⟨h1,h2,h⟩:=h
   split at h
   ·rename_i pl hpl
    split at h
    ·rename_i cs hcs
     exact ⟨_,.inl ⟨rfl,OpD_build ho h0 hz h1 h2 (built_of_fillG hz hpl hcs)⟩,.val,h⟩
    ·exact h.elim
   ·exact h.elim
  ·exact h.elim
 case h_17 T len parts ho =>
  obtain ⟨h0,h⟩:=h
  split at h
  ·rename_i e hu
   split at h
   ·rename_i m hm
    split at h
    ·rename_i z hz
     obtain ⟨h1,h2,h3,h4,h⟩:=h
     split at h
     ·rename_i cs hcs
      exact ⟨_,.inl ⟨rfl,OpD_buildSlice ho h0 hu hm hz h1 h2 h3 h4 hcs⟩,.new,h⟩
     ·exact h.elim
    ·exact h.elim
   ·exact h.elim
  ·exact h.elim
 case h_18 T x ho =>
  obtain ⟨h0,h1,h⟩:=h
  split at h
  ·exact h.elim
  ·rename_i dd hn hu
   exact ⟨_,.inl ⟨rfl,OpD_iface ho h0 h1 hu (fun ms e=>hn ms e)⟩,.val,h⟩
  ·exact h.elim
 case h_19 op T x y yT ho =>
  obtain ⟨h0,h1,h⟩:=h
  split at h
  ·rename_i v hv
   exact ⟨_,.inl ⟨rfl,OpD_bin ho h0 h1 hv⟩,.val,h⟩
  ·obtain ⟨h1,v,hv,hr,hC⟩:=h
   exact ⟨_,.inl ⟨rfl,OpD_pure (fun cs b e=>by simp_all) h1 hv hr⟩,.val,hC⟩
 case h_20 op T x ho =>
  obtain ⟨h0,h⟩:=h
  split at h
  ·rename_i v hv
   exact ⟨_,.inl ⟨rfl,OpD_un ho h0 hv⟩,.val,h⟩
  ·exact h.elim
 case h_21 S T x ho =>
  obtain ⟨h0,h⟩:=h
  split at h
  ·rename_i v hv
   exact ⟨_,.inl ⟨rfl,OpD_conv ho h0 hv⟩,.val,h⟩
  ·obtain ⟨h1,v,hv,hr,hC⟩:=h
   exact ⟨_,.inl ⟨rfl,OpD_pure (fun cs b e=>by simp_all) h1 hv hr⟩,.val,hC⟩
 case h_22 c ho =>
  unfold callX at h
  split at h
  ·rename_i f hc
   obtain ⟨h1,h⟩:=h
   unfold calleeX at h
   split at h
   ·rename_i g first cap hgf
    obtain ⟨h2,h4,h⟩:=h
    split at h
    ·rename_i hcond
     split at h
     ·obtain ⟨oc,h5,h6⟩:=h
      refine ⟨_,.inl ⟨by cases oc<;>rfl,RetP_call hGF hG ho hc (okT_okX h1) hgf h2 hcond.1 h4 h5⟩,?_,h6⟩
      cases oc<;>exact ⟨by simp [Out.eff,val,keys],by simp [Out.eff,val,keys],by simp [Out.eff,val]⟩
     ·obtain ⟨v,h5,h6⟩:=h
      exact ⟨_,.inl ⟨rfl,OpD_call hGF hG ho hc (okT_okX h1) hgf h2 hcond.1 h4 h5⟩,.val,h6⟩
    ·obtain ⟨h3,hp',rs,res,hq1,hq2,h5,hat,h6⟩:=h
     replace h5:=h5.under (hp:=hp) fun k hk=>hk.elim (fun hk=>(hq2 k hk).trans (hG k hk).symm) (fun hk=>hq1 k hk)
     have hfit:=h5.fits
     refine ⟨res.eff rs,.inl ⟨by cases res<;>rfl,OpD_fun hGF hG ho hc h1 hgf h2 h3 h4 h5⟩,?_,h6⟩
     cases res with
     | ret v ws=>exact ⟨fun k hk=>hfit.2.1 k hk,by simp [Res.eff,keys],fun k b c hb hc=>hfit.2.2.1 k b c (by simpa [Res.eff] using hb) (by simpa [Res.eff] using hc)⟩
     | pan v=>exact ⟨by simp [Res.eff,keys],by simp [Res.eff,keys],by simp [Res.eff]⟩
     | new v ns=>exact ⟨by simp [Res.eff,keys],hat,fun k b c hb hc=>hfit.2.2 k b c (by simpa [Res.eff] using hb) (by simpa [Res.eff] using hc)⟩
   ·rename_i l first cap hgf
    obtain ⟨h2,h3,h4,h⟩:=h
    obtain rfl:first=#[]:=by cases first;simpa using h2
    obtain rfl:cap=#[]:=by cases cap;simpa using h3
    unfold yieldK at h
    split at h
    ·rename_i y hy
     obtain ⟨rfl,h5,h6,h7⟩:=h
     obtain ⟨callee,args,T⟩:=c
     simp only at hc
     subst hc
     refine ⟨_,.inr ⟨by unfold yEff;split<;>rfl,y,f,args,T,hy,ho,h1,h4,hgf,h5,h6,rfl⟩,?_,h7⟩
     unfold yEff
     split<;>exact ⟨by simp [keys],by simp [keys],by simp⟩
    ·exact h.elim
   ·exact h.elim
  ·rename_i hnv
   obtain ⟨h1,h⟩:=h
   split at h
   ·rename_i v hv
    exact ⟨_,.inl ⟨rfl,OpD_built ho h1 hv⟩,.val,h⟩
   ·exact h.elim
 case h_23 x ho =>
  obtain ⟨h0,h1,h⟩:=h
  split at h
  ·rename_i T u hg
   exact ⟨_,.inl ⟨rfl,OpD_panic ho h0 h1 hg⟩,⟨by simp [keys],by simp [keys],by simp⟩,h⟩
  ·exact h.elim
 case h_24 T y ho=>exact ⟨_,.inl ⟨rfl,OpD_makeMap ho h.1⟩,.new,h.2⟩
 case h_25 T m k x ho =>
  obtain ⟨h0,h1,h2,h3,h4,h⟩:=h
  unfold insX at h
  split at h
  ·rename_i q hq
   split at h
   ·rename_i s hs
    unfold insX1 at h
    split at h
    ·rename_i l hl
     obtain ⟨b,hb,hml⟩:=Option.bind_eq_some_iff.1 hl
     obtain rfl:=mpOf_inv hml
     exact ⟨_,.inl ⟨rfl,OpD_insert ho h0 h1 h2 h3 h4 hq hs hb h.1⟩,.wr (by unfold dom;rw [hb];simp) h.2.1,h.2.2⟩
    ·exact h.elim
   ·exact h.elim
  ·exact h.elim
 case h_26 T x i ok ho =>
  obtain ⟨h0,h1,h2,h3,h⟩:=h
  subst h2
  unfold lkX at h
  split at h
  ·rename_i q hq
   split at h
   ·rename_i s hs
    unfold lkX1 at h
    split at h
    ·rename_i l hl
     obtain ⟨b,hb,hml⟩:=Option.bind_eq_some_iff.1 hl
     obtain rfl:=mpOf_inv hml
     split at h
     ·rename_i v hv
      exact ⟨_,.inl ⟨rfl,OpD_lookup ho h0 h1 h3 hq hs hb hv h.1⟩,.val,h.2⟩
     ·exact h.elim
    ·exact h.elim
   ·exact h.elim
  ·exact h.elim
 case h_27 cs b ho=>exact h.elim
 case h_28 x ho =>
  obtain ⟨h0,h⟩:=h
  unfold ncX at h
  split at h
  ·rename_i k oo hg
   exact ⟨_,.inl ⟨rfl,OpD_nilCheck ho h0 hg⟩,.val,h⟩
  ·exact h.elim
 case h_29 T x y ho =>
  obtain ⟨h0,h1,h⟩:=h
  unfold msU at h
  split at h
  ·rename_i e hu
   unfold msM at h
   split at h
   ·rename_i m hm
    unfold msZ at h
    split at h
    ·rename_i z b l hz hb hx
     obtain ⟨hy,h2,h3,h4,h5,h6,h⟩:=h
     exact ⟨_,.inl ⟨rfl,OpD_makeSlice ho h0 h1 hx hy hu hm hz hb h2 h3 h4.1 h4.2 h5 h6⟩,.new,h⟩
    ·exact h.elim
   ·exact h.elim
  ·exact h.elim
 case h_30 hns =>
  obtain ⟨h1,v,hv,hr,hC⟩:=h
  exact ⟨_,.inl ⟨rfl,OpD_pure (fun cs b e=>by simp_all) h1 hv hr⟩,.val,hC⟩

theorem meets {C:Ctx} {n:Nat} {d:List Deferred} {ro:Option Nat} (hGF:GFlat C.G) (hR:∀ y,C.Y=some y→Rounds P C.G C.E y):Meets P C n d ro (okp P C.Y):=by
 intro o e ts hp yc r a W m next Q h hd hok hws hns hn hp'
 rcases hok with ⟨h1,h2⟩|⟨h1,y,f,args,T,h2,h3,h4,h5,h6,h7,h8,rfl⟩
 ·rw [h1] at hn
  exact step_eff h hd h2 hws hns hn (fun pv W' hpn hi=>hp' pv W' yc hpn hi)
 ·have evT:∀ {x:Operand},okT ts x→flatV (gev ts x)=true→a.eval x=gev ts x:=fun {x} hk hf=>by
   cases x with
   | tmp t =>
    have:=((h.rel t).resolve_left (nj_ne hk)).1
    rw [flatV_ren (by exact hf)] at this
    exact this
   | const v=>rfl
   | func f=>rfl
   | global g=>exact hk.elim
  have hfv:a.eval f=.func (.yield y.l) #[] #[]:=by rw [evT h4 (by rw [h6];simp [flatV,flatA,flatF]),h6]
  have hargs:args.map a.eval=args.map (gev ts):=Array.map_congr_left fun x hx=>evT (h5 x (by simpa using hx)).1 (h5 x (by simpa using hx)).2
  obtain ⟨S,ms,hX,hS1,hS2,hd1,hd2⟩:=h.ext
  have gsame:∀ {W':World},GOK C.G W'→∀ k b,k<100→hp k=some b→W'.heap[r k]? = some (b.obj r):=fun {W'} hg k b hk hb=>by
   have e1:r k=k:=h.low k hk (by unfold dom;rw [hb];simp)
   have e2:C.G k=some b:=by rw [←h.glob k hk];exact hb
   rw [e1,hg k b e2]
   rw [Blk.obj_flat (fun x hx=>(hGF k b e2).2 x hx)]
  have hgok:GOK C.G W:=fun k b hk=>by
   obtain ⟨hlt,hfl⟩:=hGF k b hk
   have hb:hp k=some b:=(h.glob k hlt).trans hk
   have h9:=(h.sat k b hb).1
   rw [h.low k hlt (by unfold dom;rw [hb];simp)] at h9
   rw [h9]
   rw [Blk.obj_flat (fun x hx=>hfl x hx)]
  obtain ⟨fn,tmps,assign,body,hy,hround⟩:=hR y h2 yc _ S W hgok h8 h7 hX hS1
  have hrun:(execOp a.eval o).run P W=.ok (.round y.l fn tmps assign body) W:=by
   simp [execOp,h3,resolve,hfv,Deferred.ofValue,invoke,hargs,hy]
  refine ⟨about_ok hrun,?_⟩
  have e:(Fw P ro).round=ro:=rfl
  rw [e,Oper.semAt_eq ro a.eval o hd.2,hrun]
  refine ⟨fun h=>(by cases h),?_⟩
  have hround':RoundIn (Fw P ro) (m - 1) P _ _ _ _ _ _ _:=⟨hround.1,fun c cs _=>hround.2 c cs (room_Fs P _)⟩
  refine RoundIn.mono hround' ?_
  rintro e' W' ⟨hend,hgok',hsz,hsame,S',hX',hS1',hS2'⟩
  have base:RI C n d r ts hp (yc+1) a W' :=
   { h with
    sat:=fun k b hk=>by
     have hdk:dom hp k:=by unfold dom;rw [hk];simp
     have:=h.sat k b hk
     refine ⟨?_,this.2⟩
     by_cases hk1:k<100
     ·exact gsame hgok' k b hk1 hk
     ·exact (hsame _ (h.lt hdk) (hS2 k hdk (by omega))).trans this.1
    ext:=⟨S',ms,hX',hS1',fun i hi h1i hS=>hS2 i hi h1i (hS2' _ hS (h.lt hi)),hd1,fun D hD=>by
     have hlt:=(Array.getElem?_eq_some_iff.1 (hd2 D hD).1).1
     exact ⟨(hsame D hlt (hd2 D hD).2.1).trans (hd2 D hD).1,fun hS=>(hd2 D hD).2.1 (hS2' D hS hlt),(hd2 D hD).2.2⟩⟩ }
  have heff:yEff y yc=match y.pan yc with
   | none=>⟨.bool (yc != y.stop),[],[],[],none,true⟩
   | some pv=>⟨junk,[],[],[],some pv,true⟩:=rfl
  cases hpn:y.pan yc with
  | none =>
   rw [hpn] at hend heff
   simp only at hend heff
   subst hend
   refine hn r _ W' (by rw [heff]) ?_
   have:=base.put hd.1 (v:=.bool (yc != y.stop)) (by trivial)
   rw [heff]
   simpa [ren,renA,renF,ren0,updL] using this
  | some pv =>
   rw [hpn] at hend heff
   simp only at hend heff
   subst hend
   exact hp' pv W' (yc+1) (by rw [heff]) base

end
end Go.Gy
