/-
  Lemmas of this claim, in their order (GyV, GyS, GyN, GyP, GyO, GyO2, GyO3, GyL, GyK, GyT, GyK2, GyK3, GyK4).
  Conditions: those of each theorem.
-/
import Derived.Test.YtamodcpmplmaoaaGreatDoorGz01
import Derived.Test.YtamodcpmplmaoaaGreatDoorProg
import Derived.WalkKit
import Derived.ArgAppend
set_option linter.unusedSimpArgs false
set_option linter.unusedVariables false
namespace Go.Gy
open Go Go.RowKit

theorem nr {α:Sort _} {a b:α} (h:a=b):a=b:=h
section
variable {P:Program} {G:Hp} {V:XV} {yc:Nat} {ts:Nat->Value} {hp:Hp} {nk:Nat} {C:Eff->Prop} {dst:Option Tmp} {type:TypeId} {pos:String} {after:Array Edge} {guard:Option (Nat×Bool)}

@[simp] theorem jnf (b:Bool):nj (.bool b)=True:=nr rfl
@[simp] theorem jqb (k:IntKind) (n:Int):nj (.int k n)=True:=nr rfl
@[simp] theorem jg3 (s:ByteArray):nj (.string s)=True:=nr rfl
@[simp] theorem jdg (a:Option Addr):nj (.pointer a)=True:=nr rfl
@[simp] theorem jks (a:Option Addr) (n c:Nat):nj (.slice a n c)=True:=nr rfl
@[simp] theorem jqc (a:Option Nat):nj (.map a)=True:=nr rfl
@[simp] theorem jng (f:Fn) (a b:Array Value):nj (.func f a b)=True:=nr rfl
@[simp] theorem jkr (t:TypeId) (v:Value):nj (.iface t v)=True:=nr rfl
@[simp] theorem jqa (cs:Array Value):nj (.agg cs)=True:=nr rfl
@[simp] theorem jkt (cs:Array Value):nj (.tuple cs)=True:=nr rfl

@[simp] theorem jni (t:Tmp):okX ts hp (.tmp t)=nj (ts t):=nr rfl
@[simp] theorem jg5 (v:Value):okX ts hp (.const v)=(za0 v=true):=nr rfl
@[simp] theorem jdj (g:Nat):okX ts hp (.global g)=(g<100/\(hp g).isSome=true):=nr rfl
@[simp] theorem jkw (f:FuncId):okX ts hp (.func f)=True:=nr rfl
@[simp] theorem jmj (t:Tmp):gev ts (.tmp t)=ts t:=nr rfl
@[simp] theorem jf1 (v:Value):gev ts (.const v)=v:=nr rfl
@[simp] theorem jcy (g:Nat):gev ts (.global g)=.pointer (some ⟨g,0,none⟩):=nr rfl
@[simp] theorem jjs (f:FuncId):gev ts (.func f)=.func (.func f) #[] #[]:=nr rfl

@[simp] theorem jfk (k:IntKind) (n:Int):zhd (.int k n)=true:=nr rfl
@[simp] theorem jfn (k:IntKind) (n:Int):zbf (.int k n)=true:=nr rfl
@[simp] theorem z6s (s:ByteArray):zbf (.string s)=true:=nr rfl
@[simp] theorem z6r:zbf (.pointer none)=true:=nr rfl
@[simp] theorem z1l (n c:Nat):zbf (.slice none n c)=true:=nr rfl
@[simp] theorem jct (b:Bool):zg2 (.bool b)=true:=nr rfl
@[simp] theorem jfm (k:IntKind) (n:Int):zg2 (.int k n)=true:=nr rfl
@[simp] theorem jfl (cs:Array Value):zg2 (.agg cs)=cs.all zbf:=nr rfl
@[simp] theorem jcu (b:Bool):za0 (.bool b)=true:=nr rfl
@[simp] theorem jfq (k:IntKind) (n:Int):za0 (.int k n)=true:=nr rfl
@[simp] theorem z6t (s:ByteArray):za0 (.string s)=true:=nr rfl
@[simp] theorem z3a:za0 .nilFunc=true:=nr rfl
@[simp] theorem z1m:za0 .nilIface=true:=nr rfl
@[simp] theorem z1n (n c:Nat):za0 (.slice none n c)=true:=nr rfl
@[simp] theorem z9n (t:TypeId) (v:Value):za0 (.iface t v)=zhd v:=nr rfl
@[simp] theorem jfo (cs:Array Value):za0 (.agg cs)=cs.all zbf:=nr rfl
@[simp] theorem z9o (cs:Array Value):za0 (.tuple cs)=cs.all zg2:=nr rfl

@[simp] theorem jlb (k:IntKind) (n:Int):zkv (.int k n)=true:=nr rfl
@[simp] theorem z7s (a:Option Addr):zkv (.pointer a)=true:=nr rfl
@[simp] theorem jdy (a:Option Addr) (n c:Nat):zkv (.slice a n c)=true:=nr rfl
@[simp] theorem z7g (b:Bool):za4 (.bool b)=true:=nr rfl
@[simp] theorem ja2 (k:IntKind) (n:Int):za4 (.int k n)=true:=nr rfl
@[simp] theorem zzd (a:Option Addr):za4 (.pointer a)=true:=nr rfl
@[simp] theorem z4q (a:Option Addr) (n c:Nat):za4 (.slice a n c)=true:=nr rfl
@[simp] theorem z7h (f:Fn) (a b:Array Value):za4 (.func f a b)=true:=nr rfl
@[simp] theorem ja1 (cs:Array Value):za4 (.agg cs)=cs.all zkv:=nr rfl

@[simp] theorem jaw (b:Bool):zds (.bool b)=true:=nr rfl
@[simp] theorem jdi (k:IntKind) (n:Int):zds (.int k n)=true:=nr rfl
@[simp] theorem jdh (cs:Array Value):zds (.agg cs)=true:=nr rfl

@[simp] theorem jdr (k:IntKind) (n:Int):zbr (.int k n)=true:=nr rfl
@[simp] theorem z1q (a:Option Addr):zbr (.pointer a)=true:=nr rfl
@[simp] theorem jcn (b:Bool):(Value.bool b).cells=#[.bool b]:=nr rfl
@[simp] theorem jet (k:IntKind) (n:Int):(Value.int k n).cells=#[.int k n]:=nr rfl
@[simp] theorem z2j (a:Option Addr):(Value.pointer a).cells=#[.pointer a]:=nr rfl
@[simp] theorem z80 (a:Option Addr) (n c:Nat):(Value.slice a n c).cells=#[.slice a n c]:=nr rfl
@[simp] theorem jco (f:Fn) (a b:Array Value):(Value.func f a b).cells=#[.func f a b]:=nr rfl
@[simp] theorem jes (cs:Array Value):(Value.agg cs).cells=cs:=nr rfl

@[simp] theorem jon {α:Type} (f:Nat->α) (k:Nat) (v:α) (j:Nat):upd f k v j=if j=k then v else f j:=nr rfl
@[simp] theorem jll:zbi hp []=hp:=nr rfl
@[simp] theorem jiv (k:Nat) (b:Blk) (l:List (Nat×Blk)):zbi hp ((k,b)::l)=zbi (upd hp k (some b)) l:=nr rfl
@[simp] theorem jht (d:Tmp) (v:Value):zcx ts (some d) v=upd ts d v:=nr rfl
@[simp] theorem jhs (v:Value):zcx ts none v=ts:=nr rfl
@[simp] theorem jki:zaa []=[]:=nr rfl
@[simp] theorem jgf (k:Nat) (b:Blk) (l:List (Nat×Blk)):zaa ((k,b)::l)=k::zaa l:=nr rfl
@[simp] theorem jof (k:Nat) (tr:Tr):zfl k [] [] tr=tr:=nr rfl
@[simp] theorem jog (k x:Nat) (l wr:List Nat) (tr:Tr):zfl k (x::l) wr tr=(k,x::l,wr)::tr:=nr rfl
@[simp] theorem jsq (v:Value) (rs:List Nat):(val v rs).v=v:=nr rfl
@[simp] theorem jqu (v:Value) (rs:List Nat):(val v rs).rs=rs:=nr rfl
@[simp] theorem jqv (v:Value) (rs:List Nat):(val v rs).ws=[]:=nr rfl
@[simp] theorem jqt (v:Value) (rs:List Nat):(val v rs).ns=[]:=nr rfl
@[simp] theorem joo (v:Value) (rs:List Nat):(val v rs).pan=none:=nr rfl
@[simp] theorem jqw (v:Value) (rs:List Nat):(val v rs).yl=false:=nr rfl
@[simp] theorem jl4 (rs:List Nat) (v:Value) (ws:List (Nat×Blk)):(Res.ret v ws).eff rs=⟨v,rs,ws,[],none,false⟩:=nr rfl
@[simp] theorem jl2 (rs:List Nat) (v:Value) (ns:List (Nat×Blk)):(Res.new v ns).eff rs=⟨v,rs,[],ns,none,false⟩:=nr rfl
@[simp] theorem jl3 (rs:List Nat) (v:Value):(Res.pan v).eff rs=⟨zcm,rs,[],[],some v,false⟩:=nr rfl
@[simp] theorem jml (k:Nat):zlu k=.pointer (some ⟨k,0,none⟩):=nr rfl
@[simp] theorem jd2 (c:Array Value) (o:Nat):zcr c o []=c:=nr rfl
@[simp] theorem jby (c:Array Value) (o:Nat) (v:Value) (l:List Value):zcr c o (v::l)=zcr (c.setIfInBounds o v) (o+1) l:=nr rfl

def z04 (v:Value) (w:Bool):Option Bool :=
 match v with
 | .bool b=>some (b==w)
 | .tuple _=>some false
 | _=>none
@[simp] theorem jd6 (b w:Bool):z04 (.bool b) w=some (b==w):=nr rfl
@[simp] theorem jb9 (w:Bool):z04 undef w=some false:=nr rfl
def z03 (d:Option Tmp) (w:Bool) (ts:Nat->Value):Option Bool :=
 match d with
 | some d=>z04 (ts d) w
 | none=>some false
@[simp] theorem jd5 (d:Tmp) (w:Bool):z03 (some d) w ts=z04 (ts d) w:=nr rfl
@[simp] theorem zr3 (ops:Array Oper) (op:Op) (j:Nat) (w:Bool):zcs ops ⟨dst,op,type,pos,after,some (j,w)⟩ ts=z03 ((ops[j]?).bind (·.dst)) w ts:=by
 unfold zcs z03 z04
 rfl

def jd7 (w:Option Bool) (a b:Prop):Prop :=
 match w with
 | some true=>a
 | some false=>b
 | none=>False
@[simp] theorem zk3 (a b:Prop):jd7 (some true) a b=a:=nr rfl
@[simp] theorem jd9 (a b:Prop):jd7 (some false) a b=b:=nr rfl
def ze0 (seen:List (Option Tmp)) (k:Nat) (o:Oper) (ts:Nat->Value):Option Bool :=
 match o.guard with
 | none=>some true
 | some (j,w)=>if j<k then z03 ((seen[k - 1 - j]?).bind id) w ts else none
@[simp] theorem z71 (seen:List (Option Tmp)) (k:Nat) (op:Op):ze0 seen k ⟨dst,op,type,pos,after,none⟩ ts=some true:=nr rfl
@[simp] theorem zp3 (seen:List (Option Tmp)) (k:Nat) (op:Op) (j:Nat) (w:Bool):ze0 seen k ⟨dst,op,type,pos,after,some (j,w)⟩ ts=if j<k then z03 ((seen[k - 1 - j]?).bind id) w ts else none:=nr rfl
structure QQ where
 q:(Nat->Value)->Hp->Tr->Nat->Prop
 p:Value->Tr->Prop
def jdo (pan:Option Value) (a:Prop) (b:Value->Prop):Prop :=
 match pan with
 | none=>a
 | some v=>b v
@[simp] theorem jhh (a:Prop) (b:Value->Prop):jdo none a b=a:=nr rfl
@[simp] theorem jhi (a:Prop) (b:Value->Prop) (v:Value):jdo (some v) a b=b v:=nr rfl
@[congr] theorem jdp {pan pan':Option Value} {a:Prop} {b:Value->Prop} (h:pan=pan'):jdo pan a b=jdo pan' a b:=by rw [h]
def zhg (P:Program) (G:Hp) (V:XV) (base:Nat) (Q:QQ):List (Option Tmp)->Nat->List Oper->(Nat->Value)->Hp->Tr->Nat->Bool->Bool->Prop
 | _,_,[],ts,hp,tr,yc,_,_=>Q.q ts hp tr yc
 | seen,k,o::rest,ts,hp,tr,yc,wr,yd=>jd7 (ze0 seen k o ts) (opX P G V yc o ts hp (base+8*k) λe=>(e.yl=true->e.ws=[]->yd=false)/\jdo e.pan
    (zhg P G V base Q (o.dst::seen) (k+1) rest (zcx ts o.dst e.v) (zbi hp (e.ws++e.ns)) (zfl k (e.rs++zaa e.ns) (zaa e.ws++zaa e.ns) tr) (if e.yl then yc+1 else yc) (wr||!e.ws.isEmpty) (yd||(e.yl&&e.ws.isEmpty)))
    (λpv=>(V.dr=true->rest.isEmpty=true)/\(wr||!e.ws.isEmpty)=false/\Q.p pv (zfl k (e.rs++zaa e.ns) (zaa e.ws++zaa e.ns) tr)))
   (unD o ts/\zhg P G V base Q (o.dst::seen) (k+1) rest (zcx ts o.dst undef) hp tr yc wr yd)
theorem zme {ops:Array Oper} {seen:List (Option Tmp)} {k:Nat} {o:Oper} {b:Bool} (hs:∀ j,j<k->(seen[k - 1 - j]?).bind id=(ops[j]?).bind (·.dst)) (h:ze0 seen k o ts=some b):zcs ops o ts=some b:=by
 obtain ⟨dst,op,type,pos,after,guard⟩:=o
 cases guard with
 | none=>exact h
 | some p =>
  obtain ⟨j,w⟩:=p
  rw [zp3] at h
  rw [zr3]
  split at h
  ·rename_i hj;rw [hs j hj] at h;exact h
  ·cases h
theorem zyk {C':Eff->Prop} (hc:∀ e,C e->C' e) {m k v:Value} (h:z97 hp m k v C):z97 hp m k v C':=by
 unfold z97 zvf at *
 repeat' split at h
 all_goals first|exact h.elim|exact ⟨h.1,h.2.1,hc _ h.2.2⟩
theorem z32 {C':Eff->Prop} (hc:∀ e,C e->C' e) {m k:Value} (h:lkX hp m k C):lkX hp m k C':=by
 unfold lkX jdf at *
 repeat' split at h
 all_goals first|exact h.elim|exact ⟨h.1,hc _ h.2⟩
theorem z4k {v:Value} {C C':Eff->Prop} (hc:∀ e,C e->C' e) (h:ncX v C):ncX v C':=by
 unfold ncX at *
 split at h
 ·exact hc _ h
 ·exact h.elim
theorem z4d {u:Option TypeDesc} {v w:Value} {C C':Eff->Prop} (hc:∀ e,C e->C' e) (h:msU P nk u v w C):msU P nk u v w C':=by
 unfold msU msM msZ at *
 repeat' split at h
 all_goals first|exact h.elim|exact ⟨h.1,h.2.1,h.2.2.1,h.2.2.2.1,h.2.2.2.2.1,h.2.2.2.2.2.1,hc _ h.2.2.2.2.2.2⟩
theorem znf {o:Oper} {C':Eff->Prop} (hc:∀ e,C e->C' e) (h:opX P G V yc o ts hp nk C):opX P G V yc o ts hp nk C':=by
 have hi:=@zyk hp C C' hc
 have hl:=@z32 hp C C' hc
 have hn:=@z4k (C:=C) (C':=C') (hc:=hc)
 have hq:=@z4d P nk (C:=C) (C':=C') (hc:=hc)
 unfold opX zuq zie za2 zqm zik zmj zvz at *
 repeat' split at h
 all_goals first|exact h.elim|exact ⟨h.1,h.2.1,h.2.2.1,h.2.2.2.1,h.2.2.2.2.1,hi h.2.2.2.2.2⟩|exact ⟨h.1,h.2.1,h.2.2.1,h.2.2.2.1,hl h.2.2.2.2⟩|exact ⟨h.1,hn h.2⟩|exact ⟨h.1,h.2.1,hq h.2.2⟩|skip
 all_goals grind
theorem zeq {ops:Array Oper} {base:Nat} {Q:QQ}:∀ (l:List Oper) (seen:List (Option Tmp)) (k:Nat) (ts:Nat->Value) (hp:Hp) (tr:Tr) (yc:Nat) (wr yd:Bool),(∀ j,j<k->(seen[k - 1 - j]?).bind id=(ops[j]?).bind (·.dst))->(∀ i,l[i]? = ops[k+i]?) ->
  zhg P G V base Q seen k l ts hp tr yc wr yd->zi5 P G V ops base Q.q Q.p k l ts hp tr yc wr yd
 | [],_,_,_,_,_,_,_,_,_,_,h=>h
 | o::l,seen,k,ts,hp,tr,yc,wr,yd,hs,hl,h=>by
  have ho:ops[k]? = some o:=by have:=hl 0;simpa using this.symm
  have hs':∀ j,j<k+1->((o.dst::seen)[k+1 - 1 - j]?).bind id=(ops[j]?).bind (·.dst):=λj hj=>by
   by_cases e:j=k
   ·subst e;simp [ho]
   ·have:k+1 - 1 - j=(k - 1 - j)+1:=by omega
    rw [this,List.getElem?_cons_succ];exact hs j (by omega)
  have hl':∀ i,l[i]? = ops[k+1+i]?:=λi=>by
   have:=hl (i+1)
   rw [List.getElem?_cons_succ] at this
   rw [this];congr 1;omega
  simp only [zhg] at h
  simp only [zi5]
  cases hw:ze0 seen k o ts with
  | none=>rw [hw] at h;exact h.elim
  | some b =>
   rw [hw] at h
   rw [zme hs hw]
   cases b with
   | true =>
    rw [zk3] at h
    refine znf (λe he=>⟨he.1,?_⟩) h
    have he:=he.2
    cases hpn:e.pan with
    | none=>rw [hpn] at he;exact zeq l _ _ _ _ _ _ _ _ hs' hl' he
    | some pv=>rw [hpn] at he;exact ⟨λhd=>by simpa using he.1 hd,he.2⟩
   | false=>exact ⟨h.1,zeq l _ _ _ _ _ _ _ _ hs' hl' h.2⟩
theorem z1v {Ct:Ctx} {n:Nat} {d:List Deferred} {ro:Option Nat} {s:GS} {K:Exit->GS->Prop} {id:Nat} {l:List Oper} (pn:List FuncId) (hm:P.follows .mixedOrders=true) (hB:Region.lexFrom .any l.toArray l.length 0 (Array.replicate l.length false)=true) (hdst:(zg1 n l&&zry P l)=true)
  (h:∀ (Q:QQ),(∀ ts hp tr yc,chk .any l.toArray tr=true->K .normal ⟨ts,hp,s.B+8*l.length,yc⟩->Q.q ts hp tr yc) ->
   (∀ pv tr,chk .any l.toArray tr=true->(∀ yc,K (.panic [{ v:=pv,recovered:=false }]) ⟨zhw l s.ts,s.hp,s.B,yc⟩)->Q.p pv tr)->zhg P Ct.G ⟨Ct.Y,pn,true⟩ s.B Q [] 0 l s.ts s.hp [] s.yc false false):GW P Ct n d ro (.region id l.toArray true) s K :=
 z8a pn hm hB hdst λQ Qp hQ hQp=>zeq (Q:=⟨Q,Qp⟩) l [] 0 _ _ _ _ _ _ (λj hj=>absurd hj (Nat.not_lt_zero j)) (λi=>by simp) (h ⟨Q,Qp⟩ hQ hQp)
theorem zde {Ct:Ctx} {n:Nat} {d:List Deferred} {ro:Option Nat} {s:GS} {K:Exit->GS->Prop} {id:Nat} {l:List Oper} (pn:List FuncId) (hdst:(zg1 n l&&zry P l)=true)
  (h:∀ (Q:QQ),(∀ ts hp tr yc,K .normal ⟨ts,hp,s.B+8*l.length,yc⟩->Q.q ts hp tr yc) ->
   (∀ pv tr,(∀ yc,K (.panic [{ v:=pv,recovered:=false }]) ⟨zhw l s.ts,s.hp,s.B,yc⟩)->Q.p pv tr)->zhg P Ct.G ⟨Ct.Y,pn,false⟩ s.B Q [] 0 l s.ts s.hp [] s.yc false false):GW P Ct n d ro (.region id l.toArray false) s K :=
 zwy pn hdst λQ Qp hQ hQp=>zeq (Q:=⟨Q,Qp⟩) l [] 0 _ _ _ _ _ _ (λj hj=>absurd hj (Nat.not_lt_zero j)) (λi=>by simp) (h ⟨Q,Qp⟩ hQ hQp)

def z2h (C:Eff->Prop) (v:Value):Prop:=C (val v [])
@[simp] theorem jep (v:Value):z2h C v=C (val v []):=nr rfl
def zj9 (P:Program) (G:Hp) (V:XV) (base:Nat) (Q:QQ) (seen:List (Option Tmp)) (k:Nat) (rest:List Oper) (dst:Option Tmp) (ts:Nat->Value) (hp:Hp) (tr:Tr) (yc:Nat) (wr yd:Bool) (e:Eff):Prop :=
 (e.yl=true->e.ws=[]->yd=false)/\jdo e.pan
    (zhg P G V base Q (dst::seen) (k+1) rest (zcx ts dst e.v) (zbi hp (e.ws++e.ns)) (zfl k (e.rs++zaa e.ns) (zaa e.ws++zaa e.ns) tr) (if e.yl then yc+1 else yc) (wr||!e.ws.isEmpty) (yd||(e.yl&&e.ws.isEmpty)))
    (λpv=>(V.dr=true->rest.isEmpty=true)/\(wr||!e.ws.isEmpty)=false/\Q.p pv (zfl k (e.rs++zaa e.ns) (zaa e.ws++zaa e.ns) tr))
@[simp] theorem jey (base:Nat) (Q:QQ) (seen:List (Option Tmp)) (k:Nat) (rest:List Oper) (tr:Tr) (wr yd:Bool) (v:Value) (rs:List Nat):zj9 P G V base Q seen k rest dst ts hp tr yc wr yd (val v rs) =
 zhg P G V base Q (dst::seen) (k+1) rest (zcx ts dst v) hp (zfl k rs [] tr) yc wr yd:=by simp [zj9]
@[simp] theorem jjk (base:Nat) (Q:QQ) (seen:List (Option Tmp)) (k:Nat) (rest:List Oper) (tr:Tr) (wr yd:Bool) (v:Value) (rs:List Nat) (ws ns:List (Nat×Blk)):zj9 P G V base Q seen k rest dst ts hp tr yc wr yd ⟨v,rs,ws,ns,none,false⟩ =
 zhg P G V base Q (dst::seen) (k+1) rest (zcx ts dst v) (zbi hp (ws++ns)) (zfl k (rs++zaa ns) (zaa ws++zaa ns) tr) yc (wr||!ws.isEmpty) yd:=by simp [zj9]
@[simp] theorem jjl (base:Nat) (Q:QQ) (seen:List (Option Tmp)) (k:Nat) (rest:List Oper) (tr:Tr) (wr yd:Bool) (v:Value):zj9 P G V base Q seen k rest dst ts hp tr yc wr yd ⟨v,[],[],[],none,true⟩ =
 (yd=false/\zhg P G V base Q (dst::seen) (k+1) rest (zcx ts dst v) hp tr (yc+1) wr true):=by simp [zj9]
@[simp] theorem jez (base:Nat) (Q:QQ) (seen:List (Option Tmp)) (k:Nat) (rest:List Oper) (tr:Tr) (wr yd:Bool) (v:Value) (w:Nat) (b:Blk):zj9 P G V base Q seen k rest dst ts hp tr yc wr yd ⟨v,[w],[(w,b)],[],none,true⟩ =
 zhg P G V base Q (dst::seen) (k+1) rest (zcx ts dst v) (zbi hp [(w,b)]) (zfl k [w] [w] tr) (yc+1) true yd:=by simp [zj9,zaa]
@[simp] theorem jex (base:Nat) (Q:QQ) (seen:List (Option Tmp)) (k:Nat) (rest:List Oper) (tr:Tr) (wr yd:Bool) (v pv:Value) (rs:List Nat):zj9 P G V base Q seen k rest dst ts hp tr yc wr yd ⟨v,rs,[],[],some pv,false⟩ =
 ((V.dr=true->rest.isEmpty=true)/\wr=false/\Q.p pv (zfl k rs [] tr)):=by simp [zj9]
@[simp] theorem jkj (base:Nat) (Q:QQ) (seen:List (Option Tmp)) (k:Nat) (tr:Tr) (wr yd:Bool):zhg P G V base Q seen k [] ts hp tr yc wr yd=Q.q ts hp tr yc:=nr rfl
@[simp] theorem jgh (base:Nat) (Q:QQ) (seen:List (Option Tmp)) (k:Nat) (tr:Tr) (wr yd:Bool) (op:Op) (rest:List Oper):zhg P G V base Q seen k (⟨dst,op,type,pos,after,guard⟩::rest) ts hp tr yc wr yd =
  jd7 (ze0 seen k ⟨dst,op,type,pos,after,guard⟩ ts) (opX P G V yc ⟨dst,op,type,pos,after,guard⟩ ts hp (base+8*k) (zj9 P G V base Q seen k rest dst ts hp tr yc wr yd))
   (unD ⟨dst,op,type,pos,after,guard⟩ ts/\zhg P G V base Q (dst::seen) (k+1) rest (zcx ts dst undef) hp tr yc wr yd):=nr rfl

@[simp] theorem jlh (x:Operand):unD ⟨dst,.move x,type,pos,after,guard⟩ ts=True:=nr rfl
@[simp] theorem jli (c:Operand) (x:Operand) (y:Operand):unD ⟨dst,.pick c x y,type,pos,after,guard⟩ ts=True:=nr rfl
@[simp] theorem jiq (T:TypeId) (ps:Array (Nat×Operand)):unD ⟨dst,.build T ps,type,pos,after,guard⟩ ts=True:=nr rfl
@[simp] theorem jlg (T:TypeId) (x:Operand):unD ⟨dst,.load T x,type,pos,after,guard⟩ ts=True:=nr rfl
@[simp] theorem z70 (x:Operand):unD ⟨dst,.nilCheck x,type,pos,after,guard⟩ ts=True:=nr rfl
@[simp] theorem jip (b:BinOp) (T:TypeId) (x:Operand) (y:Operand) (T2:TypeId):unD ⟨dst,.binOp b T x y T2,type,pos,after,guard⟩ ts=True:=nr rfl
@[simp] theorem jlj (u:UnOp) (T:TypeId) (x:Operand):unD ⟨dst,.unOp u T x,type,pos,after,guard⟩ ts=True:=nr rfl
@[simp] theorem z5f (T:TypeId) (x:Operand) (f:Nat):unD ⟨dst,.fieldAddr T x f,type,pos,after,guard⟩ ts=True:=nr rfl
@[simp] theorem z5g (T:TypeId) (x:Operand) (i:Operand):unD ⟨dst,.indexAddr T x i,type,pos,after,guard⟩ ts=True:=nr rfl
@[simp] theorem jit (t:Tmp) (a:Array Operand) (T:Array TypeId):unD ⟨dst,.call ⟨.value (.tmp t),a,T⟩,type,pos,after,guard⟩ ts=(ts t=undef):=nr rfl
@[simp] theorem jis (f:FuncId) (a:Array Operand) (T:Array TypeId):unD ⟨dst,.call ⟨.value (.func f),a,T⟩,type,pos,after,guard⟩ ts=True:=nr rfl
@[simp] theorem jir (b:Builtin) (a:Array Operand) (T:Array TypeId):unD ⟨dst,.call ⟨.builtin b,a,T⟩,type,pos,after,guard⟩ ts=True:=nr rfl

def z63 (u:Option TypeDesc) (T:TypeId) (v:Value) (C:Eff->Prop):Prop :=
 match u with
 | some (.interface _)=>False
 | some _=>C (val (.iface T v) [])
 | none=>False
@[simp ↓] theorem jk0 (x:Operand):opX P G V yc ⟨dst,.move x,type,pos,after,guard⟩ ts hp nk C=(okX ts hp x/\C (val (gev ts x) [])):=nr rfl
@[simp ↓] theorem jdk (x:Operand):opX P G V yc ⟨dst,.assign x,type,pos,after,guard⟩ ts hp nk C=(okX ts hp x/\C (val (gev ts x) [])):=nr rfl
def z4u (ts:Nat->Value) (hp:Hp) (v:Value) (x y:Operand) (C:Eff->Prop):Prop :=
 match v with
 | .bool b=>(b=true->okX ts hp x)/\(b=false->okX ts hp y)/\C (val (if b then gev ts x else gev ts y) [])
 | _=>False
@[simp] theorem jdq (b:Bool) (x y:Operand):z4u ts hp (.bool b) x y C=((b=true->okX ts hp x)/\(b=false->okX ts hp y)/\C (val (if b then gev ts x else gev ts y) [])):=nr rfl
@[simp ↓] theorem jk1 (c x y:Operand):opX P G V yc ⟨dst,.pick c x y,type,pos,after,guard⟩ ts hp nk C=(okX ts hp c/\z4u ts hp (gev ts c) x y C):=nr rfl
def zsh (z:Option Value) (nk:Nat) (T:TypeId) (C:Eff->Prop):Prop :=
 match z with
 | some z=>za4 z=true/\za0 z=true/\C ⟨zlu nk,[],[],[(nk,⟨z.cells,T⟩)],none,false⟩
 | none=>False
@[simp] theorem z8l (z:Value) (T:TypeId):zsh (some z) nk T C=(za4 z=true/\za0 z=true/\C ⟨zlu nk,[],[],[(nk,⟨z.cells,T⟩)],none,false⟩):=nr rfl
@[simp ↓] theorem jg6 (T:TypeId):opX P G V yc ⟨dst,.alloc T,type,pos,after,guard⟩ ts hp nk C=zsh (zbm P T) nk T C:=nr rfl
@[simp ↓] theorem jnl (T:TypeId) (x:Operand):opX P G V yc ⟨dst,.box T x,type,pos,after,guard⟩ ts hp nk C=(okX ts hp x/\za4 (gev ts x)=true/\C ⟨zlu nk,[],[],[(nk,⟨(gev ts x).cells,T⟩)],none,false⟩):=nr rfl
def zpd (v:Option Value) (k:Nat) (C:Eff->Prop):Prop :=
 match v with
 | some v=>C (val v [k])
 | none=>False
@[simp] theorem jac (v:Value) (k:Nat):zpd (some v) k C=C (val v [k]):=nr rfl
def zpc (P:Program) (T:TypeId) (b:Option Blk) (k off:Nat) (C:Eff->Prop):Prop :=
 match b with
 | some b=>zpd (zc6 P T b off) k C
 | none=>False
@[simp] theorem jkm (T t:TypeId) (c:Array Value) (off:Nat):zc6 P T ⟨c,.ty t⟩ off=zb5 P T c off:=nr rfl
@[simp] theorem jab (T:TypeId) (b:Blk) (k off:Nat):zpc P T (some b) k off C=zpd (zc6 P T b off) k C:=nr rfl
def z33 (P:Program) (T:TypeId) (hp:Hp) (v:Value) (C:Eff->Prop):Prop :=
 match v with
 | .pointer (some ⟨k,off,none⟩)=>zpc P T (hp k) k off C
 | _=>False
@[simp] theorem jgm (T:TypeId) (k off:Nat):z33 P T hp (.pointer (some ⟨k,off,none⟩)) C=zpc P T (hp k) k off C:=nr rfl
@[simp ↓] theorem jkz (T:TypeId) (x:Operand):opX P G V yc ⟨dst,.load T x,type,pos,after,guard⟩ ts hp nk C=(okX ts hp x/\z33 P T hp (gev ts x) C):=nr rfl
def zky (P:Program) (T:TypeId) (b:Option Blk) (k off:Nat) (w:Value) (C:Eff->Prop):Prop :=
 match b with
 | some b=>b.T.own=true/\za4 w=true/\zaz P T=some w.cells.size/\off+w.cells.size<=b.c.size/\100<=k/\C ⟨undef,[k],[(k,⟨zcr b.c off w.cells.toList,b.T⟩)],[],none,false⟩
 | none=>False
@[simp] theorem z7x (T:TypeId) (c:Array Value) (T':BTy) (k off:Nat) (w:Value):zky P T (some ⟨c,T'⟩) k off w C=(BTy.own T'=true/\za4 w=true/\zaz P T=some w.cells.size/\off+w.cells.size<=c.size/\100<=k/\C ⟨undef,[k],[(k,⟨zcr c off w.cells.toList,T'⟩)],[],none,false⟩):=nr rfl
def zts (P:Program) (T:TypeId) (hp:Hp) (v w:Value) (C:Eff->Prop):Prop :=
 match v with
 | .pointer (some ⟨k,off,none⟩)=>zky P T (hp k) k off w C
 | _=>False
@[simp] theorem jd3 (T:TypeId) (k off:Nat) (w:Value):zts P T hp (.pointer (some ⟨k,off,none⟩)) w C=zky P T (hp k) k off w C:=nr rfl
@[simp ↓] theorem jhe (T:TypeId) (x y:Operand):opX P G V yc ⟨dst,.store T x y,type,pos,after,guard⟩ ts hp nk C=(okX ts hp x/\okX ts hp y/\zts P T hp (gev ts x) (gev ts y) C):=nr rfl
@[simp ↓] theorem ja7 (T:TypeId) (y:Option Operand):opX P G V yc ⟨dst,.makeMap T y,type,pos,after,guard⟩ ts hp nk C=(y.isNone=true/\C ⟨.map (some nk),[],[],[(nk,mpB [])],none,false⟩):=nr rfl
@[simp] theorem jjr (f:Fn) (a b:Array Value):fnV (.func f a b)=true:=nr rfl
@[simp] theorem jc9 (l:List (ByteArray×Value)) (k:Nat) (s:ByteArray) (v:Value):zvf (some (mpB l)) k s v C=(zc4 s l=none/\100<=k/\C ⟨undef,[k],[(k,mpB (l++[(s,v)]))],[],none,false⟩):=by simp [zvf,zte]
@[simp] theorem jj2 (q:Nat) (s:ByteArray) (v:Value):z97 hp (.map (some q)) (.string s) v C=zvf (hp q) q s v C:=nr rfl
@[simp ↓] theorem jdm (T:TypeId) (m k x:Operand):opX P G V yc ⟨dst,.insert T m k x,type,pos,after,guard⟩ ts hp nk C=(okX ts hp m/\okX ts hp k/\okX ts hp x/\zgc P T=true/\fnV (gev ts x)=true/\z97 hp (gev ts m) (gev ts k) (gev ts x) C):=nr rfl
def jm3 (v:Option Value) (k:Nat) (C:Eff->Prop):Prop:=match v with
 | some v=>fnV v=true/\C (val v [k])
 | none=>False
@[simp] theorem jgj (v:Value) (k:Nat):jm3 (some v) k C=(fnV v=true/\C (val v [k])):=nr rfl
@[simp] theorem jgi (l:List (ByteArray×Value)) (k:Nat) (s:ByteArray):jdf (some (mpB l)) k s C=jm3 (zc4 s l) k C:=by unfold jdf jm3;rw [Option.bind_some,zte];rfl
@[simp] theorem jm4 (q:Nat) (s:ByteArray):lkX hp (.map (some q)) (.string s) C=jdf (hp q) q s C:=nr rfl
@[simp ↓] theorem jdn (T:TypeId) (x i:Operand) (ok:Bool):opX P G V yc ⟨dst,.lookup T x i ok,type,pos,after,guard⟩ ts hp nk C=(okX ts hp x/\okX ts hp i/\ok=false/\zgc P T=true/\lkX hp (gev ts x) (gev ts i) C):=nr rfl
def zfx (v:Option Value) (C:Eff->Prop):Prop :=
 match v with
 | some v=>zds v=true/\C (val v [])
 | none=>False
@[simp] theorem z1i (v:Value):zfx (some v) C=(zds v=true/\C (val v [])):=nr rfl
def zjn (v:Value) (i:Nat) (C:Eff->Prop):Prop :=
 match v with
 | .tuple vs=>zfx vs[i]? C
 | _=>False
@[simp] theorem z1k (vs:Array Value) (i:Nat):zjn (.tuple vs) i C=zfx vs[i]? C:=nr rfl
@[simp ↓] theorem ja6 (x:Operand) (i:Nat):opX P G V yc ⟨dst,.extract x i,type,pos,after,guard⟩ ts hp nk C=(okX ts hp x/\zjn (gev ts x) i C):=nr rfl
def zq2 (s:Option Nat) (k off:Nat) (m:Int) (C:Eff->Prop):Prop :=
 match s with
 | some s=>C (val (.pointer (some ⟨k,off+m.toNat*s,none⟩)) [])
 | none=>False
@[simp] theorem jc4 (s k off:Nat) (m:Int):zq2 (some s) k off m C=C (val (.pointer (some ⟨k,off+m.toNat*s,none⟩)) []):=nr rfl
def zyh (P:Program) (v:Value) (len:Nat) (e:TypeId) (m:Int) (C:Eff->Prop):Prop :=
 match v with
 | .pointer (some ⟨k,off,none⟩)=>(0<=m/\m<len)/\zq2 (zaz P e) k off m C
 | _=>False
@[simp] theorem jgc (k off len:Nat) (e:TypeId) (m:Int):zyh P (.pointer (some ⟨k,off,none⟩)) len e m C=((0<=m/\m<len)/\zq2 (zaz P e) k off m C):=nr rfl
def zyi (P:Program) (v:Value) (e:TypeId) (m:Int) (C:Eff->Prop):Prop :=
 match v with
 | .slice (some ⟨k,off,none⟩) len _=>(0<=m/\m<len)/\zq2 (zaz P e) k off m C
 | _=>False
@[simp] theorem z96 (k off len cap:Nat) (e:TypeId) (m:Int):zyi P (.slice (some ⟨k,off,none⟩) len cap) e m C=((0<=m/\m<len)/\zq2 (zaz P e) k off m C):=nr rfl
def jc3 (P:Program) (u:Option TypeDesc) (v:Value) (m:Int) (C:Eff->Prop):Prop :=
 match u with
 | some (.array len e)=>zyh P v len e m C
 | some (.slice e)=>zyi P v e m C
 | _=>False
@[simp] theorem jc5 (len:Nat) (e:TypeId) (v:Value) (m:Int):jc3 P (some (.array len e)) v m C=zyh P v len e m C:=nr rfl
@[simp] theorem jc7 (e:TypeId) (v:Value) (m:Int):jc3 P (some (.slice e)) v m C=zyi P v e m C:=nr rfl
def z3m (P:Program) (T:TypeId) (i v:Value) (C:Eff->Prop):Prop :=
 match i with
 | .int _ m=>jc3 P (P.underlying T) v m C
 | _=>False
@[simp] theorem jgb (T:TypeId) (k:IntKind) (m:Int) (v:Value):z3m P T (.int k m) v C=jc3 P (P.underlying T) v m C:=nr rfl
@[simp ↓] theorem jhb (T:TypeId) (x i:Operand):opX P G V yc ⟨dst,.indexAddr T x i,type,pos,after,guard⟩ ts hp nk C=(okX ts hp x/\okX ts hp i/\z3m P T (gev ts i) (gev ts x) C):=nr rfl
def z1o (ts:Nat->Value) (args:Array Operand):List Value:=args.toList.map (gev ts)
@[simp] theorem jmk (l:List Operand):z1o ts l.toArray=l.map (gev ts):=by simp [z1o]
def zo8 (P:Program) (e:TypeId) (s:Option Nat) (v:Value) (m:Int) (C:Eff->Prop):Prop :=
 match s with
 | some s=>match v with
  | .agg cs=>unX' (zb5 P e cs (m.toNat*s)) C
  | _=>False
 | none=>False
where unX' (v:Option Value) (C:Eff->Prop):Prop :=
 match v with
 | some v=>C (val v [])
 | none=>False
@[simp] theorem jga (e:TypeId) (s:Nat) (cs:Array Value) (m:Int):zo8 P e (some s) (.agg cs) m C=zo8.unX' (zb5 P e cs (m.toNat*s)) C:=nr rfl
@[simp] theorem jmy (v:Value):zo8.unX' (some v) C=C (val v []):=nr rfl
@[congr] theorem z3l {v v':Option Value} (h:v=v'):zo8.unX' v C=zo8.unX' v' C:=by rw [h]
@[congr] theorem jc2 {e:TypeId} {s s':Option Nat} {v v':Value} {m m':Int} (h1:s=s') (h2:v=v') (h3:m=m'):zo8 P e s v m C=zo8 P e s' v' m' C:=by rw [h1,h2,h3]
def z61 (s:ByteArray) (m:Int) (C:Eff->Prop):Prop :=
 match (if 0<=m then s[m.toNat]? else none) with
 | some b=>C (val (.int .u8 b.toNat) [])
 | none=>False
def zve (v:Value) (m:Int) (C:Eff->Prop):Prop :=
 match v with
 | .string s=>z61 s m C
 | _=>False
@[simp] theorem jf9 (s:ByteArray) (m:Int):zve (.string s) m C=z61 s m C:=nr rfl
@[congr] theorem z90 {v v':Value} {m m':Int} (h1:v=v') (h2:m=m'):zve v m C=zve v' m' C:=by rw [h1,h2]
@[congr] theorem jc1 {s s':ByteArray} {m m':Int} (h1:s=s') (h2:m=m'):z61 s m C=z61 s' m' C:=by rw [h1,h2]
theorem z91 {s:ByteArray} {m:Int} {b:UInt8} (h0:0<=m) (h:s[m.toNat]? = some b):z61 s m C=C (val (.int .u8 b.toNat) []):=by simp [z61,h0,h]
def z9z (P:Program) (u:Option TypeDesc) (v:Value) (m:Int) (C:Eff->Prop):Prop :=
 match u with
 | some (.array len e)=>(0<=m/\m<len)/\zo8 P e (zaz P e) v m C
 | some .string=>zve v m C
 | _=>False
@[simp] theorem jj1 (v:Value) (m:Int):z9z P (some .string) v m C=zve v m C:=nr rfl
@[simp] theorem jj0 (len:Nat) (e:TypeId) (v:Value) (m:Int):z9z P (some (.array len e)) v m C=((0<=m/\m<len)/\zo8 P e (zaz P e) v m C):=nr rfl
@[congr] theorem jc0 {u u':Option TypeDesc} {v v':Value} {m m':Int} (h1:u=u') (h2:v=v') (h3:m=m'):z9z P u v m C=z9z P u' v' m' C:=by rw [h1,h2,h3]
def jf8 (P:Program) (T:TypeId) (i v:Value) (C:Eff->Prop):Prop :=
 match i with
 | .int _ m=>z9z P (P.underlying T) v m C
 | _=>False
@[simp] theorem jjz (T:TypeId) (k:IntKind) (m:Int) (v:Value):jf8 P T (.int k m) v C=z9z P (P.underlying T) v m C:=nr rfl
@[congr] theorem jcz {T:TypeId} {i i' v v':Value} (h1:i=i') (h2:v=v'):jf8 P T i v C=jf8 P T i' v' C:=by rw [h1,h2]
@[simp ↓] theorem jdl (T:TypeId) (x i:Operand):opX P G V yc ⟨dst,.index T x i,type,pos,after,guard⟩ ts hp nk C=(okX ts hp x/\okX ts hp i/\jf8 P T (gev ts i) (gev ts x) C):=by
 simp only [opX,jf8]
 congr 2
 cases gev ts i<;>first|rfl|skip
 unfold z9z
 simp only
 cases hu:P.underlying T with
 | none=>rfl
 | some u =>
  cases u<;>first|rfl|skip
  ·simp only
   unfold zo8
   cases hg:gev ts x<;>cases hs:zaz P _<;>first|rfl|(simp;done)|skip
   all_goals (simp only [zo8.unX'];cases zb5 P _ _ _<;>rfl)
  all_goals (simp only;unfold zve z61;cases gev ts x<;>rfl)
def jjq (P:Program) (f:Option (TypeId×Nat)) (v:Value) (C:Eff->Prop):Prop :=
 match f with
 | some (t,off)=>match v with
  | .agg cs=>zo8.unX' (zb5 P t cs off) C
  | _=>False
 | none=>False
@[congr] theorem jcx {f f':Option (TypeId×Nat)} {v v':Value} (h1:f=f') (h2:v=v'):jjq P f v C=jjq P f' v' C:=by rw [h1,h2]
@[simp ↓] theorem jg9 (T:TypeId) (x:Operand) (f:Nat):opX P G V yc ⟨dst,.field T x f,type,pos,after,guard⟩ ts hp nk C=(okX ts hp x/\jjq P (fdX P T f) (gev ts x) C):=by
 simp only [opX,jjq]
 congr 1
def jjp (f:Option (TypeId×Nat)) (v:Value) (C:Eff->Prop):Prop :=
 match f with
 | some (_,off)=>match v with
  | .pointer (some ⟨k,o,none⟩)=>C (val (.pointer (some ⟨k,o+off,none⟩)) [])
  | _=>False
 | none=>False
@[simp] theorem jfh (t:TypeId) (off k o:Nat):jjp (some (t,off)) (.pointer (some ⟨k,o,none⟩)) C=C (val (.pointer (some ⟨k,o+off,none⟩)) []):=nr rfl
@[congr] theorem jcq {f f':Option (TypeId×Nat)} {v v':Value} (h1:f=f') (h2:v=v'):jjp f v C=jjp f' v' C:=by rw [h1,h2]
@[simp] theorem jrp (k o:Nat):ncX (.pointer (some ⟨k,o,none⟩)) C=C (val (.pointer (some ⟨k,o,none⟩)) []):=nr rfl
@[congr] theorem jg2 {v v':Value} (h:v=v'):ncX v C=ncX v' C:=by rw [h]
@[simp ↓] theorem z7j (x:Operand):opX P G V yc ⟨dst,.nilCheck x,type,pos,after,guard⟩ ts hp nk C=(okX ts hp x/\ncX (gev ts x) C):=nr rfl
@[simp ↓] theorem z4s (T:TypeId) (x:Operand) (f:Nat):opX P G V yc ⟨dst,.fieldAddr T x f,type,pos,after,guard⟩ ts hp nk C=(okX ts hp x/\jjp (fdX P T f) (gev ts x) C):=nr rfl
def jfy (ts:Nat->Value) (o:Option Operand):Option Value:=o.map (gev ts)
@[simp] theorem jf0 (x:Operand):jfy ts (some x)=some (gev ts x):=nr rfl
@[simp] theorem jfz:jfy ts none=none:=nr rfl
@[simp ↓] theorem jhd (T:TypeId) (x:Operand) (lo hi mx:Option Operand):opX P G V yc ⟨dst,.slice T x lo hi mx,type,pos,after,guard⟩ ts hp nk C =
 (okX ts hp x/\(∀ y∈lo.toList,okX ts hp y)/\(∀ y∈hi.toList,okX ts hp y)/\mx.isNone=true/\zo8.unX' (slX P T (gev ts x) (jfy ts lo) (jfy ts hi)) C):=by
 simp only [opX,jfy]
 cases slX P T (gev ts x) (lo.map (gev ts)) (hi.map (gev ts))<;>rfl
def slU (P:Program) (u:Option TypeDesc) (v:Value) (lo hi:Option Value):Option Value :=
 match u with
 | some (.array n e)=>match v with
  | .pointer (some ⟨k,off,none⟩)=>match zaz P e with
   | some s=>slV (some (k,off)) s n (zec n n lo hi)
   | none=>none
  | _=>none
 | some (.slice e)=>match v with
  | .slice (some ⟨k,off,none⟩) n c=>match zaz P e with
   | some s=>slV (some (k,off)) s c (zec n c lo hi)
   | none=>none
  | .slice none n c=>match zaz P e with
   | some s=>slV none s c (zec n c lo hi)
   | none=>none
  | _=>none
 | some .string=>match v with
  | .string s=>slS s (zec s.size s.size lo hi)
  | _=>none
 | _=>none
@[simp] theorem jqq (T:TypeId) (v:Value) (lo hi:Option Value):slX P T v lo hi=slU P (P.underlying T) v lo hi:=nr rfl
def slZ (a:Option (Nat×Nat)) (s:Option Nat) (c:Nat) (p:Option (Nat×Nat)):Option Value :=
 match s with
 | some s=>slV a s c p
 | none=>none
@[simp] theorem jle (a:Option (Nat×Nat)) (s c:Nat) (p:Option (Nat×Nat)):slZ a (some s) c p=slV a s c p:=nr rfl
@[simp] theorem job (n:Nat) (e:TypeId) (k off:Nat) (lo hi:Option Value):slU P (some (.array n e)) (.pointer (some ⟨k,off,none⟩)) lo hi=slZ (some (k,off)) (zaz P e) n (zec n n lo hi):=nr rfl
@[simp] theorem jig (e:TypeId) (k off n c:Nat) (lo hi:Option Value):slU P (some (.slice e)) (.slice (some ⟨k,off,none⟩) n c) lo hi=slZ (some (k,off)) (zaz P e) c (zec n c lo hi):=nr rfl
@[simp] theorem jld (k off s c l h:Nat):slV (some (k,off)) s c (some (l,h))=some (.slice (some ⟨k,if c=l then off else off+l*s,none⟩) (h - l) (c - l)):=nr rfl
@[simp] theorem jjt (len cap:Nat) (k:IntKind) (m:Int):hiG len cap (some (.int k m))=if 0<=m/\m<=cap then some m.toNat else none:=nr rfl
@[simp] theorem jkk (h:Nat):loG h none=some 0:=nr rfl
def z7w (lo:Option Value) (h:Option Nat):Option (Nat×Nat) :=
 match h with
 | none=>none
 | some h=>(loG h lo).map λl=>(l,h)
@[simp] theorem jih (len cap:Nat) (lo hi:Option Value):zec len cap lo hi=z7w lo (hiG len cap hi):=nr rfl
@[simp] theorem jbx (lo:Option Value) (h:Nat):z7w lo (some h)=(loG h lo).map λl=>(l,h):=nr rfl
@[simp ↓] theorem jnj (T:TypeId) (x:Operand):opX P G V yc ⟨dst,.sliceToArrayPointer T x,type,pos,after,guard⟩ ts hp nk C=(okX ts hp x/\zo8.unX' (jcj P T (gev ts x)) C):=by
 simp only [opX]
 cases jcj P T (gev ts x)<;>rfl
def jo4 (u:Option TypeDesc) (v:Value):Option Value :=
 match u with
 | some (.array n _)=>match v with
  | .slice a len _=>if n<=len then some (.pointer a) else none
  | _=>none
 | _=>none
@[simp] theorem jlv (T:TypeId) (v:Value):jcj P T v=jo4 (P.underlying T) v:=nr rfl
@[simp] theorem jja (n:Nat) (e:TypeId) (a:Option Addr) (len c:Nat):jo4 (some (.array n e)) (.slice a len c)=if n<=len then some (.pointer a) else none:=nr rfl
def jp6 (u:Option TypeDesc) (v:Value):Option Value :=
 match u with
 | some .string=>match v with
  | .string s=>some (.int .i64 s.size)
  | _=>none
 | some (.array n _)=>some (.int .i64 n)
 | some (.slice _)=>match v with
  | .slice _ n _=>some (.int .i64 n)
  | _=>none
 | _=>none
@[simp] theorem jm2 (T:TypeId) (v:Value):jdd P T v=jp6 (P.underlying T) v:=nr rfl
@[simp] theorem jdc (e:TypeId) (a:Option Addr) (n c:Nat):jp6 (some (.slice e)) (.slice a n c)=some (.int .i64 n):=nr rfl
@[simp ↓] theorem jnm (x:Operand) (T:TypeId):opX P G V yc ⟨dst,.call ⟨.builtin .len,#[x],#[T]⟩,type,pos,after,guard⟩ ts hp nk C=(okX ts hp x/\zo8.unX' (jdd P T (gev ts x)) C):=by
 simp only [opX,zuq,zlh]
 simp
 intro _
 cases jdd P T (gev ts x)<;>rfl
@[simp] theorem jnb (k k':IntKind) (a c:Int):zrf true (.int k a) (.int k' c)=some (.int k (if a<c then c else a)):=nr rfl
@[simp] theorem jna (k k':IntKind) (a c:Int):zrf false (.int k a) (.int k' c)=some (.int k (if c<a then c else a)):=nr rfl
def jp7 (b:Bool) (z:Option Value) (l:List Value):Option Value :=
 match z with
 | some z=>zqb b z l
 | none=>none
@[simp] theorem jgz (b:Bool) (z:Value) (l:List Value):jp7 b (some z) l=zqb b z l:=nr rfl
@[simp] theorem jko (b:Bool) (k:IntKind) (a:Int):zqb b (.int k a) []=some (.int k a):=nr rfl
@[simp] theorem jgx (b:Bool) (x y:Value) (l:List Value):zqb b x (y::l)=jp7 b (zrf b x y) l:=nr rfl
@[simp] theorem jgy (b:Bool) (x:Value) (l:List Value):zy2 b (x::l)=zqb b x l:=nr rfl
@[simp ↓] theorem jnn (l:List Operand) (T:Array TypeId):opX P G V yc ⟨dst,.call ⟨.builtin .max,l.toArray,T⟩,type,pos,after,guard⟩ ts hp nk C=((∀ x∈l,okX ts hp x)/\zo8.unX' (zy2 true (z1o ts l.toArray)) C):=by
 simp only [opX,zuq,zlh,z1o]
 cases zy2 true (l.map (gev ts))<;>rfl
@[simp ↓] theorem jno (l:List Operand) (T:Array TypeId):opX P G V yc ⟨dst,.call ⟨.builtin .min,l.toArray,T⟩,type,pos,after,guard⟩ ts hp nk C=((∀ x∈l,okX ts hp x)/\zo8.unX' (zy2 false (z1o ts l.toArray)) C):=by
 simp only [opX,zuq,zlh,z1o]
 cases zy2 false (l.map (gev ts))<;>rfl
def pnX (v:Value) (C:Eff->Prop):Prop :=
 match v with
 | .iface T u=>C ⟨zcm,[],[],[],some (.iface T u),false⟩
 | _=>False
@[simp ↓] theorem jhc (x:Operand):opX P G V yc ⟨dst,.panic x,type,pos,after,guard⟩ ts hp nk C=(okX ts hp x/\za0 (gev ts x)=true/\pnX (gev ts x) C):=nr rfl
@[simp] theorem jhp (T:TypeId) (u:Value):pnX (.iface T u) C=C ⟨zcm,[],[],[],some (.iface T u),false⟩:=nr rfl
@[congr] theorem jho {v v':Value} (h:v=v'):pnX v C=pnX v' C:=by rw [h]
@[simp] theorem jk3 (v:Value):(Out.ret v).eff=val v []:=nr rfl
@[simp] theorem jk2 (v:Value):(Out.pan v).eff=⟨zcm,[],[],[],some v,false⟩:=nr rfl
@[simp ↓] theorem z7i (fn:Fn) (first cap:Array Operand):opX P G V yc ⟨dst,.makeFunc fn first cap,type,pos,after,guard⟩ ts hp nk C =
 ((∀ x∈first.toList,okX ts hp x/\zbr (gev ts x)=true)/\(∀ x∈cap.toList,okX ts hp x/\zbr (gev ts x)=true)/\C (val (.func fn (first.map (gev ts)) (cap.map (gev ts))) [])):=nr rfl
def z8p (P:Program) (v:Option Value) (o:Oper) (ts:Nat->Value) (hp:Hp) (C:Eff->Prop):Prop :=
 match v with
 | some v=>C (val v [])
 | none=>zvz P o ts hp λv=>C (val v [])
@[simp] theorem jem (v:Value) (o:Oper):z8p P (some v) o ts hp C=C (val v []):=nr rfl
@[simp ↓] theorem jnk (op:BinOp) (T yT:TypeId) (x y:Operand):opX P G V yc ⟨dst,.binOp op T x y yT,type,pos,after,guard⟩ ts hp nk C =
 (okX ts hp x/\okX ts hp y/\z8p P (zoe P op T (gev ts x) (gev ts y)) ⟨dst,.binOp op T x y yT,type,pos,after,guard⟩ ts hp C):=nr rfl
def unX (v:Option Value) (C:Eff->Prop):Prop :=
 match v with
 | some v=>C (val v [])
 | none=>False
@[simp] theorem jlk (v:Value):unX (some v) C=C (val v []):=nr rfl
@[simp ↓] theorem jqd (op:UnOp) (T:TypeId) (x:Operand):opX P G V yc ⟨dst,.unOp op T x,type,pos,after,guard⟩ ts hp nk C=(okX ts hp x/\unX (un1 op (gev ts x)) C):=nr rfl
@[simp ↓] theorem jky (S T:TypeId) (x:Operand):opX P G V yc ⟨dst,.convert S T x,type,pos,after,guard⟩ ts hp nk C=(okX ts hp x/\z8p P (zmy P S T (gev ts x)) ⟨dst,.convert S T x,type,pos,after,guard⟩ ts hp C):=nr rfl
@[simp] theorem jnh (t:Tmp):okT ts (.tmp t)=nj (ts t):=nr rfl
@[simp] theorem jkv (f:FuncId):okT ts (.func f)=True:=nr rfl
def zla (b:Bool) (x y:Prop):Prop :=
 match b with
 | true=>x
 | false=>y
@[simp] theorem zvw (x y:Prop):zla true x y=x:=nr rfl
@[simp] theorem jbb (x y:Prop):zla false x y=y:=nr rfl
@[congr] theorem jba {b b':Bool} {x y:Prop} (h:b=b'):zla b x y=zla b' x y:=by rw [h]
def zod (l:List Value):Array Value:=l.toArray
@[simp] theorem ji9 (l:List Value):zod l=l.toArray:=nr rfl
def zj4 (P:Program) (G:Hp) (V:XV) (nk yc:Nat) (ts:Nat->Value) (hp:Hp) (v:Value) (args:Array Operand) (C:Eff->Prop):Prop:=zie P G V nk yc ts hp v args C
@[congr] theorem z6g {v v':Value} {args:Array Operand} (h:v=v'):zj4 P G V nk yc ts hp v args C=zj4 P G V nk yc ts hp v' args C:=by rw [h]
def zoi (P:Program) (G:Hp) (V:XV) (nk:Nat) (hp:Hp) (g:FuncId) (l:List Value) (cap:List Value) (C:Eff->Prop):Prop :=
 zla (cap.isEmpty&&!V.pn.contains g&&l.all za0) (zla (V.pn.contains (g+1000000)) (zqm P G g (zod l) C) (za2 P G g (zod l) (z2h C))) (cap.all zbr=true/\zik P G g (zod (l++cap)) hp nk C)
@[congr] theorem z6i {g:FuncId} {l l' cap cap':List Value} (h:l=l') (h':cap=cap'):zoi P G V nk hp g l cap C=zoi P G V nk hp g l' cap' C:=by rw [h,h']
@[simp] theorem jeq (g:FuncId) (l cap:List Value):zoi P G V nk hp g l cap C=zla (cap.isEmpty&&!V.pn.contains g&&l.all za0) (zla (V.pn.contains (g+1000000)) (zqm P G g (zod l) C) (za2 P G g (zod l) (z2h C))) (cap.all zbr=true/\zik P G g (zod (l++cap)) hp nk C):=nr rfl
@[simp] theorem z8w (g:FuncId) (args:List Operand) (capv:List Value):zj4 P G V nk yc ts hp (.func (.func g) #[] capv.toArray) args.toArray C=((∀ x∈args,okX ts hp x)/\zoi P G V nk hp g (z1o ts args.toArray) capv C):=by
 have e:(Array.map (gev ts) args.toArray)=(args.map (gev ts)).toArray:=by simp
 have ea:((args.map (gev ts)).toArray++capv.toArray)=(args.map (gev ts)++capv).toArray:=by simp
 unfold zj4 zie zoi z2h z1o zod
 simp only [e,ea,List.size_toArray,List.length_nil,true_and]
 congr 1
 by_cases h:capv=[]/\V.pn.contains g=false/\(args.map (gev ts)).all za0=true
 ·obtain ⟨h1,h2,h3⟩:=h
  subst h1
  have h4:(args.map (gev ts)).toArray.all za0=true:=by simpa using h3
  rw [if_pos ⟨rfl,h2,h4⟩]
  simp only [List.isEmpty_nil,h2,h3,Bool.not_false,Bool.and_self,zvw]
  cases V.pn.contains (g+1000000)<;>simp [zla]
 ·rw [if_neg (by
   rintro ⟨h1,h2,h3⟩
   exact h ⟨List.eq_nil_of_length_eq_zero h1,h2,by simpa using h3⟩)]
  have hb:(capv.isEmpty&&!V.pn.contains g&&(args.map (gev ts)).all za0)=false:=by
   cases hb:(capv.isEmpty&&!V.pn.contains g&&(args.map (gev ts)).all za0) with
   | false=>rfl
   | true =>
    simp only [Bool.and_eq_true,List.isEmpty_iff,Bool.not_eq_true'] at hb
    exact absurd ⟨hb.1.1,hb.1.2,hb.2⟩ h
  simp only [hb,zla]
  simp
def zjb (Y:Option YG) (yc l:Nat) (hp:Hp) (args:List Value) (C:Eff->Prop):Prop:=zmj Y yc l hp args.toArray C
theorem z13 {y:YG} (h:y.sh=none) (l:List Value):l.toArray.map y.act=l.toArray:=by
 have:y.act=id:=by funext v;unfold YG.act;rw [h];rfl
 rw [this]
 simp
@[simp] theorem jcf (l':Nat) (xs:List (Array Value)) (st l:Nat) (args:List Value):zjb (some ⟨l',xs,st,none,none⟩) yc l hp args C=(l=l'/\yc<=st/\(∀ v∈args,za0 v=true)/\xs[yc]? = some args.toArray/\C ⟨.bool (yc != st),[],[],[],none,true⟩):=by
 have:(YG.mk l' xs st none none).pan yc=none:=by unfold YG.pan;split<;>rfl
 simp only [zjb,zmj,zt4,this,z13,YG.arg,YG.lies,true_and]
def shX (hp:Hp) (s:Sh) (xs:Option (Array Value)) (yc st:Nat) (args:List Value) (C:Eff->Prop):Prop :=
 (∀ v∈args,zqc s.w v=true)/\xs=some (args.toArray.map (ren λ_=>s.a))/\(hp s.w=some (s.ob yc)/\100<=s.w)/\C ⟨.bool (yc != st),[s.w],[(s.w,s.ob (yc+1))],[],none,true⟩
@[simp] theorem ji3 (l':Nat) (xs:List (Array Value)) (st l:Nat) (s:Sh) (args:List Value):zjb (some ⟨l',xs,st,none,some s⟩) yc l hp args C=(l=l'/\yc<=st/\shX hp s xs[yc]? yc st args C):=by
 have:(YG.mk l' xs st none (some s)).pan yc=none:=by unfold YG.pan;split<;>rfl
 have e:(YG.mk l' xs st none (some s)).act=ren λ_=>s.a:=by funext v;rfl
 simp only [zjb,zmj,zt4,this,YG.arg,YG.lies,e,shX,and_true]
def ji2 (b:Bool) (pv:Value):Eff:=if b then ⟨zcm,[],[],[],some pv,true⟩ else ⟨.bool true,[],[],[],none,true⟩
def yC (C:Eff->Prop) (b:Bool) (pv:Value):Prop:=C (ji2 b pv)
@[congr] theorem jlq {b b':Bool} {pv:Value} (h:b=b'):yC C b pv=yC C b' pv:=by rw [h]
@[congr] theorem z74 {Y Y':Option YG} {yc' l:Nat} {args args':List Value} (h0:Y=Y') (h1:yc=yc') (h:args=args'):zjb Y yc l hp args C=zjb Y' yc' l hp args' C:=by rw [h0,h1,h]
@[simp] theorem z6h (l:Nat) (args:List Operand):zj4 P G V nk yc ts hp (.func (.yield l) #[] #[]) args.toArray C=((∀ x∈args,okT ts x)/\zjb V.Y yc l hp (z1o ts args.toArray) C):=by
 have e:(Array.map (gev ts) args.toArray)=(args.map (gev ts)).toArray:=by simp
 unfold zj4 zie zjb z1o
 simp only [e,List.size_toArray,List.length_nil,true_and]
@[simp ↓] theorem jkx (f:Operand) (args:Array Operand) (argTypes:Array TypeId):opX P G V yc ⟨dst,.call ⟨.value f,args,argTypes⟩,type,pos,after,guard⟩ ts hp nk C=(okT ts f/\zj4 P G V nk yc ts hp (gev ts f) args C):=nr rfl
@[congr] theorem z8v {f f':FuncId} {args args':Array Value} (hf:f=f') (h:args=args'):zqm P G f args C=zqm P G f' args' C:=by rw [hf,h]
@[congr] theorem z8u {f f':FuncId} {args args':Array Value} {K:Value->Prop} (hf:f=f') (h:args=args'):za2 P G f args K=za2 P G f' args' K:=by rw [hf,h]
@[simp ↓] theorem jha (T:TypeId) (x:Operand):opX P G V yc ⟨dst,.makeInterface T x,type,pos,after,guard⟩ ts hp nk C=(okX ts hp x/\zbr (gev ts x)=true/\z63 (P.underlying T) T (gev ts x) C):=nr rfl
def bsX (o:Option (Array Value)) (e:TypeId) (len nk:Nat) (C:Eff->Prop):Prop :=
 match o with
 | some cs=>C ⟨.slice (some ⟨nk,0,none⟩) len len,[],[],[(nk,⟨cs,e⟩)],none,false⟩
 | none=>False
@[simp] theorem jji (cs:Array Value) (e:TypeId) (len:Nat):bsX (some cs) e len nk C=C ⟨.slice (some ⟨nk,0,none⟩) len len,[],[],[(nk,⟨cs,e⟩)],none,false⟩:=nr rfl
def buX (pl:Option (List (Nat×Nat) ⊕ Nat)) (z:Value) (parts:List (Nat×Value)) (C:Eff->Prop):Prop :=
 match pl with
 | some pl=>unX ((zfz pl z.cells parts).map .agg) C
 | none=>False
@[simp] theorem z2g (pl:List (Nat×Nat) ⊕ Nat) (z:Value) (parts:List (Nat×Value)):buX (some pl) z parts C=unX ((zfz pl z.cells parts).map .agg) C:=nr rfl
def zoh (P:Program) (T:TypeId) (z:Option Value) (parts:List (Nat×Value)) (C:Eff->Prop):Prop :=
 match z with
 | some z=>za4 z=true/\za0 z=true/\buX (zbj P T) z parts C
 | none=>False
@[simp] theorem z8t (T:TypeId) (z:Value) (parts:List (Nat×Value)):zoh P T (some z) parts C=(za4 z=true/\za0 z=true/\buX (zbj P T) z parts C):=nr rfl
@[simp ↓] theorem jg7 (T:TypeId) (parts:Array (Nat×Operand)):opX P G V yc ⟨dst,.build T parts,type,pos,after,guard⟩ ts hp nk C =
  ((∀ p∈parts.toList,okX ts hp p.2/\za4 (gev ts p.2)=true)/\zoh P T (zbm P T) (zd0 ts parts) C):=by
 unfold opX zoh
 simp only
 cases hz:zbm P T with
 | none=>rfl
 | some z =>
  simp only
  cases hp:zbj P T with
  | none=>rfl
  | some pl =>
   simp only [z2g]
   cases hf:zfz pl z.cells (zd0 ts parts)<;>rfl
@[simp] theorem jhl (parts:Array (Nat×Operand)):zd0 ts parts=parts.toList.map λp=>(p.1,gev ts p.2):=nr rfl
@[simp] theorem jk5 (m i:Nat):z4v (.inr m) i=some (i*m,m):=nr rfl
@[simp] theorem jk4 (l:List (Nat×Nat)) (i:Nat):z4v (.inl l) i=l[i]?:=nr rfl
@[simp] theorem jfi (pl:List (Nat×Nat) ⊕ Nat) (cells:Array Value):zfz pl cells []=some cells:=nr rfl
def jfj (pl:List (Nat×Nat) ⊕ Nat) (cells:Array Value) (os:Option (Nat×Nat)) (v:Value) (rest:List (Nat×Value)):Option (Array Value) :=
 match os with
 | none=>none
 | some (off,size)=>if v.cells.size=size/\off+v.cells.size<=cells.size then zfz pl (zcr cells off v.cells.toList) rest else none
@[simp] theorem jcs (pl:List (Nat×Nat) ⊕ Nat) (cells:Array Value) (off size:Nat) (v:Value) (rest:List (Nat×Value)):jfj pl cells (some (off,size)) v rest=if v.cells.size=size/\off+v.cells.size<=cells.size then zfz pl (zcr cells off v.cells.toList) rest else none:=nr rfl
@[simp] theorem jcr (pl:List (Nat×Nat) ⊕ Nat) (cells:Array Value) (i:Nat) (v:Value) (rest:List (Nat×Value)):zfz pl cells ((i,v)::rest)=jfj pl cells (z4v pl i) v rest:=nr rfl

@[congr] theorem jde {base:Nat} {Q:QQ} {seen:List (Option Tmp)} {k k':Nat} {l:List Oper} {ts':Nat->Value} {hp':Hp} {tr tr':Tr} {yc':Nat} {wr wr' yd yd':Bool} (h1:k=k') (h2:ts=ts') (h3:hp=hp') (h4:tr=tr') (h5:yc=yc') (h6:wr=wr') (h7:yd=yd') :
  zhg P G V base Q seen k l ts hp tr yc wr yd=zhg P G V base Q seen k' l ts' hp' tr' yc' wr' yd':=by rw [h1,h2,h3,h4,h5,h6,h7]
@[congr] theorem z5m {seen:List (Option Tmp)} {k k':Nat} {o:Oper} (h1:k=k'):ze0 seen k o ts=ze0 seen k' o ts:=by rw [h1]
@[congr] theorem jg8 {o:Oper} {ts':Nat->Value} {hp':Hp} {nk':Nat} (h2:ts=ts') (h3:hp=hp') (h4:nk=nk'):opX P G V yc o ts hp nk C=opX P G V yc o ts' hp' nk' C:=by rw [h2,h3,h4]
@[congr] theorem jd8 {w w':Option Bool} {a b:Prop} (h:w=w'):jd7 w a b=jd7 w' a b:=by rw [h]
@[congr] theorem jbc {v v':Value} {x y:Operand} (h:v=v'):z4u ts hp v x y C=z4u ts hp v' x y C:=by rw [h]
@[congr] theorem z6c {z z':Option Value} {nk':Nat} {T:TypeId} (h:z=z') (h1:nk=nk'):zsh z nk T C=zsh z' nk' T C:=by rw [h,h1]
@[congr] theorem z7b {v v':Option Value} {k k':Nat} (h:v=v') (h1:k=k'):zpd v k C=zpd v' k' C:=by rw [h,h1]
@[congr] theorem z7a {T:TypeId} {b b':Option Blk} {k off k' off':Nat} (h:b=b') (h1:k=k') (h2:off=off'):zpc P T b k off C=zpc P T b' k' off' C:=by rw [h,h1,h2]
@[congr] theorem jad {T:TypeId} {v v':Value} (h:v=v'):z33 P T hp v C=z33 P T hp v' C:=by rw [h]
@[congr] theorem z5b {T:TypeId} {b b':Option Blk} {k off k' off':Nat} {w w':Value} (h:b=b') (h1:k=k') (h2:off=off') (h3:w=w'):zky P T b k off w C=zky P T b' k' off' w' C:=by rw [h,h1,h2,h3]
@[congr] theorem z7y {T:TypeId} {v v' w w':Value} (h:v=v') (h1:w=w'):zts P T hp v w C=zts P T hp v' w' C:=by rw [h,h1]
@[congr] theorem zxx {v v':Option Value} (h:v=v'):zfx v C=zfx v' C:=by rw [h]
@[congr] theorem z1j {v v':Value} {i:Nat} (h:v=v'):zjn v i C=zjn v' i C:=by rw [h]
@[congr] theorem z93 {s s':Option Nat} {k k' off off':Nat} {m m':Int} (h:s=s') (h1:k=k') (h2:off=off') (h3:m=m'):zq2 s k off m C=zq2 s' k' off' m' C:=by rw [h,h1,h2,h3]
@[congr] theorem z94 {v v':Value} {len:Nat} {e:TypeId} {m m':Int} (h:v=v') (h1:m=m'):zyh P v len e m C=zyh P v' len e m' C:=by rw [h,h1]
@[congr] theorem z95 {v v':Value} {e:TypeId} {m m':Int} (h:v=v') (h1:m=m'):zyi P v e m C=zyi P v' e m' C:=by rw [h,h1]
@[congr] theorem jc6 {u u':Option TypeDesc} {v v':Value} {m m':Int} (h0:u=u') (h:v=v') (h1:m=m'):jc3 P u v m C=jc3 P u' v' m' C:=by rw [h,h1,h0]
@[congr] theorem z92 {T:TypeId} {i i' v v':Value} (h:i=i') (h1:v=v'):z3m P T i v C=z3m P T i' v' C:=by rw [h,h1]
@[congr] theorem jck {o:Oper} {v v':Option Value} (h:v=v'):z8p P v o ts hp C=z8p P v' o ts hp C:=by rw [h]
@[congr] theorem jiu {v v':Option Value} (h:v=v'):unX v C=unX v' C:=by rw [h]
@[congr] theorem z9r {f:FuncId} {args args':Array Value} (h:args=args'):zik P G f args hp nk C=zik P G f args' hp nk C:=by rw [h]
@[congr] theorem jen {o o':Option (Array Value)} {e:TypeId} {len nk':Nat} (h:o=o') (h1:nk=nk'):bsX o e len nk C=bsX o' e len nk' C:=by rw [h,h1]
@[congr] theorem jeo {pl pl':Option (List (Nat×Nat) ⊕ Nat)} {z z':Value} {parts parts':List (Nat×Value)} (h:pl=pl') (h1:z=z') (h2:parts=parts'):buX pl z parts C=buX pl' z' parts' C:=by rw [h,h1,h2]
@[congr] theorem z6f {T:TypeId} {z z':Option Value} {parts parts':List (Nat×Value)} (h1:z=z') (h2:parts=parts'):zoh P T z parts C=zoh P T z' parts' C:=by rw [h1,h2]

@[simp] theorem jjc (op:BinOp) (T:TypeId) (k k':IntKind) (a b:Int):zoe P op T (.int k a) (.int k' b)=zm6 op k a k' b:=nr rfl
@[simp] theorem z2b (T:TypeId) (a b:Bool):zoe P .eql T (.bool a) (.bool b)=if zmt P T then some (.bool (a==b)) else none:=nr rfl
@[simp] theorem z2c (T:TypeId) (a b:Bool):zoe P .neq T (.bool a) (.bool b)=if zmt P T then some (.bool (a != b)) else none:=nr rfl
def zum (r:Option Bool) (neg:Bool):Option Value :=
 match r with
 | some r=>some (.bool (if neg then !r else r))
 | none=>none
@[simp] theorem jlw (r:Bool):zum (some r) false=some (.bool r):=nr rfl
@[simp] theorem jlx (r:Bool):zum (some r) true=some (.bool !r):=nr rfl
@[simp] theorem z6d (T:TypeId) (a b:Array Value):zoe P .eql T (.agg a) (.agg b)=zum (z16 P T a b) false:=by unfold zoe zum;simp only;split<;>simp_all
@[simp] theorem z6e (T:TypeId) (a b:Array Value):zoe P .neq T (.agg a) (.agg b)=zum (z16 P T a b) true:=by unfold zoe zum;simp only;split<;>simp_all
@[simp] theorem jlr (T:TypeId) (xs ys:Array Value):z16 P T xs ys=zuh P T (zwp P T) (zgd P T) xs ys:=nr rfl
def jek (n:Option Nat) (xs ys:Array Value):Option Bool :=
 match n with
 | some n=>if xs.size=n/\ys.size=n then zwq xs.toList ys.toList else none
 | none=>none
@[simp] theorem jlu (T:TypeId) (xs ys:Array Value):zwo P T xs ys=jek (zwp P T) xs ys:=nr rfl
@[simp] theorem jci (n:Nat) (xs ys:Array Value):jek (some n) xs ys=if xs.size=n/\ys.size=n then zwq xs.toList ys.toList else none:=nr rfl
@[simp] theorem jch (T:TypeId) (n:Nat) (st:Option (List (TypeId×Nat))) (xs ys:Array Value):zuh P T (some n) st xs ys=zwo P T xs ys:=nr rfl
@[simp] theorem ji7 (T:TypeId) (l:List (TypeId×Nat)) (xs ys:Array Value):zuh P T none (some l) xs ys=if (xs.all zbf&&ys.all zbf)=true then z24 P xs ys l else none:=nr rfl
def jl5 (a b:Option Bool):Option Bool :=
 match a,b with
 | some a,some b=>some (a&&b)
 | _,_=>none
@[simp] theorem jfc (a b:Bool):jl5 (some a) (some b)=some (a&&b):=nr rfl
@[simp] theorem jjn (xs ys:Array Value):z24 P xs ys []=some true:=nr rfl
@[simp] theorem jfd (T off:Nat) (fs:List (TypeId×Nat)) (xs ys:Array Value):z24 P xs ys ((T,off)::fs)=jl5 (jft P T off xs ys) (z24 P xs ys fs):=nr rfl
def jmf (P:Program) (T off:Nat) (n:Option Nat) (xs ys:Array Value):Option Bool :=
 match n with
 | some n=>if off+n<=xs.size/\off+n<=ys.size then zwo P T (xs.extract off (off+n)) (ys.extract off (off+n)) else none
 | none=>if z3o P T=true then match xs[off]?,ys[off]? with
   | some (.int k a),some (.int k' b)=>if k=k' then some (a==b) else none
   | _,_=>none
  else jfu P (snF P T) off xs ys
@[simp] theorem jfv (l:List (TypeId×Nat)) (m off:Nat) (xs ys:Array Value):jfu P (some (l,m)) off xs ys=if off+m<=xs.size/\off+m<=ys.size then z1h P (xs.extract off (off+m)) (ys.extract off (off+m)) l else none:=nr rfl
@[simp] theorem jjm (xs ys:Array Value):z1h P xs ys []=some true:=nr rfl
@[simp] theorem jfb (T off:Nat) (fs:List (TypeId×Nat)) (xs ys:Array Value):z1h P xs ys ((T,off)::fs)=jl5 (jfr P T off xs ys) (z1h P xs ys fs):=nr rfl
def jfs (P:Program) (T off:Nat) (n:Option Nat) (xs ys:Array Value):Option Bool :=
 match n with
 | some n=>if off+n<=xs.size/\off+n<=ys.size then zwo P T (xs.extract off (off+n)) (ys.extract off (off+n)) else none
 | none=>if z3o P T=true then match xs[off]?,ys[off]? with
   | some (.int k a),some (.int k' b)=>if k=k' then some (a==b) else none
   | _,_=>none
  else none
@[simp] theorem jmd (T off:Nat) (xs ys:Array Value):jfr P T off xs ys=jfs P T off (z1g P T) xs ys:=nr rfl
@[simp] theorem jcw (T off n:Nat) (xs ys:Array Value):jfs P T off (some n) xs ys=if off+n<=xs.size/\off+n<=ys.size then zwo P T (xs.extract off (off+n)) (ys.extract off (off+n)) else none:=nr rfl
@[simp] theorem jme (T off:Nat) (xs ys:Array Value):jft P T off xs ys=jmf P T off (z1g P T) xs ys:=nr rfl
@[simp] theorem jfx (T off n:Nat) (xs ys:Array Value):jmf P T off (some n) xs ys=if off+n<=xs.size/\off+n<=ys.size then zwo P T (xs.extract off (off+n)) (ys.extract off (off+n)) else none:=nr rfl
def jp4 (a b:Option Value):Option Bool :=
 match a,b with
 | some (.int k a),some (.int k' b)=>if k=k' then some (a==b) else none
 | _,_=>none
@[simp] theorem jgd (k k':IntKind) (a b:Int):jp4 (some (.int k a)) (some (.int k' b))=if k=k' then some (a==b) else none:=nr rfl
@[simp] theorem jfw (T off:Nat) (xs ys:Array Value):jmf P T off none xs ys=if z3o P T=true then jp4 xs[off]? ys[off]? else jfu P (snF P T) off xs ys:=nr rfl
@[simp] theorem jjo:zwq [] []=some true:=nr rfl
def jo3 (b:Bool) (r:Option Bool):Option Bool :=
 match r with
 | some r=>some (b&&r)
 | none=>none
@[simp] theorem jei (b r:Bool):jo3 b (some r)=some (b&&r):=nr rfl
@[simp] theorem jfe (k k':IntKind) (a b:Int) (xs ys:List Value):zwq (.int k a::xs) (.int k' b::ys)=if k=k' then jo3 (a==b) (zwq xs ys) else none:=nr rfl
@[simp] theorem jj3 (k k':IntKind) (a b:Int):zm6 .add k a k' b=if k=k' then some (.int k (k.wrap (a+b))) else none:=nr rfl
@[simp] theorem jkg (k k':IntKind) (a b:Int):zm6 .sub k a k' b=if k=k' then some (.int k (k.wrap (a - b))) else none:=nr rfl
@[simp] theorem jka (k k':IntKind) (a b:Int):zm6 .mul k a k' b=if k=k' then some (.int k (k.wrap (a*b))) else none:=nr rfl
@[simp] theorem jkc (k k':IntKind) (a b:Int):zm6 .quo k a k' b=if k=k' then if b=0 then none else some (.int k (k.wrap (a.tdiv b))) else none:=nr rfl
@[simp] theorem jkd (k k':IntKind) (a b:Int):zm6 .rem k a k' b=if k=k' then if b=0 then none else some (.int k (a.tmod b)) else none:=nr rfl
@[simp] theorem jke (k k':IntKind) (a b:Int):zm6 .shl k a k' b=if 0<=b then some (.int k (k.wrap (a*2^min b.toNat k.bits))) else none:=nr rfl
@[simp] theorem jkf (k k':IntKind) (a b:Int):zm6 .shr k a k' b=if 0<=b then some (.int k (a.fdiv (2^min b.toNat k.bits))) else none:=nr rfl
@[simp] theorem jj4 (k k':IntKind) (a b:Int):zm6 .and k a k' b=if k=k' then some (.int k (zdy .and k a b)) else none:=nr rfl
@[simp] theorem jmz (k k':IntKind) (a b:Int):zm6 .or k a k' b=if k=k' then some (.int k (zdy .or k a b)) else none:=nr rfl
@[simp] theorem jj5 (k k':IntKind) (a b:Int):zm6 .eql k a k' b=if k=k' then some (.bool (a==b)) else none:=nr rfl
@[simp] theorem jkb (k k':IntKind) (a b:Int):zm6 .neq k a k' b=if k=k' then some (.bool (a != b)) else none:=nr rfl
@[simp] theorem jj9 (k k':IntKind) (a b:Int):zm6 .lss k a k' b=if k=k' then some (.bool (a<b)) else none:=nr rfl
@[simp] theorem jj8 (k k':IntKind) (a b:Int):zm6 .leq k a k' b=if k=k' then some (.bool (a<=b)) else none:=nr rfl
@[simp] theorem jj7 (k k':IntKind) (a b:Int):zm6 .gtr k a k' b=if k=k' then some (.bool (b<a)) else none:=nr rfl
@[simp] theorem jj6 (k k':IntKind) (a b:Int):zm6 .geq k a k' b=if k=k' then some (.bool (b<=a)) else none:=nr rfl
@[simp] theorem jok (k:IntKind) (a:Int):un1 .neg (.int k a)=some (.int k (k.wrap (0 - a))):=nr rfl
@[simp] theorem jol (b:Bool):un1 .not (.bool b)=some (.bool !b):=nr rfl
@[simp] theorem jom (k:IntKind) (a:Int):un1 .xor (.int k a)=some (.int k (zdy .xor k (if k.signed then -1 else k.max) a)):=nr rfl
def z83 (s t:Option TypeDesc) (n:Int):Option Value :=
 match s,t with
 | some _,some (.int k)=>some (.int k (k.wrap n))
 | _,_=>none
@[simp] theorem je1 (s:TypeDesc) (k:IntKind) (n:Int):z83 (some s) (some (.int k)) n=some (.int k (k.wrap n)):=nr rfl
@[simp] theorem je0 (S T:TypeId) (k:IntKind) (n:Int):zmy P S T (.int k n)=z83 (P.underlying S) (P.underlying T) n:=by
 unfold zmy z83
 cases hs:P.underlying S with
 | none=>rfl
 | some s =>
  cases ht:P.underlying T with
  | none=>rfl
  | some d=>cases d<;>rfl

@[simp] theorem jge (l:List Oper) (ts:Nat->Value) (t:Nat):zhw l ts t=if l.any (λo=>o.dst==some t) then zcm else ts t:=nr rfl
def z44 (v:Value):Option Value:=if zds v then some v else none
def jk8 (v:Option Value):Option Value :=
 match v with
 | some v=>z44 v
 | none=>none
@[simp] theorem jh7 (v:Value):jk8 (some v)=z44 v:=nr rfl
@[simp] theorem jh4 (t:Tmp):znj P ts hp (.tmp t)=z44 (ts t):=nr rfl
def z43 (P:Program) (T:TypeId) (b:Option Blk) (off:Nat):Option Value :=
 match b with
 | some b=>jk8 (zc6 P T b off)
 | none=>none
@[simp] theorem jdu (T:TypeId) (b:Blk) (off:Nat):z43 P T (some b) off=jk8 (zc6 P T b off):=nr rfl
def jn4 (P:Program) (T:TypeId) (hp:Hp) (v:Value):Option Value :=
 match v with
 | .pointer (some ⟨k,off,none⟩)=>z43 P T (hp k) off
 | _=>none
@[simp] theorem jk7 (T:TypeId) (k off:Nat):jn4 P T hp (.pointer (some ⟨k,off,none⟩))=z43 P T (hp k) off:=nr rfl
@[simp] theorem jdv (t:Tmp) (T:TypeId):znj P ts hp (.cell t T)=jn4 P T hp (ts t):=by
 unfold znj jn4
 simp only
 split
 ·unfold z43
  split
  ·unfold jk8 z44;split<;>simp_all
  ·simp_all
 ·simp_all
@[simp] theorem jh8 (b:Bool):z44 (.bool b)=some (.bool b):=nr rfl
@[simp] theorem jla (k:IntKind) (n:Int):z44 (.int k n)=some (.int k n):=nr rfl
@[simp] theorem jk9 (cs:Array Value):z44 (.agg cs)=some (.agg cs):=nr rfl
@[simp] theorem jh9 (f:Fn) (a b:Array Value):z44 (.func f a b)=some (.func f a b):=nr rfl
@[simp] theorem jbh (s:ByteArray):z44 (.string s)=some (.string s):=nr rfl
def jqm (v:Option Value) (r:Option (List Value)):Option (List Value) :=
 match v,r with
 | some v,some vs=>some (v::vs)
 | _,_=>none
@[simp] theorem jh6 (v:Value) (vs:List Value):jqm (some v) (some vs)=some (v::vs):=nr rfl
@[simp] theorem jh5:zjh P ts hp []=some []:=nr rfl
@[simp] theorem jdw (x:ResultVar) (l:List ResultVar):zjh P ts hp (x::l)=jqm (znj P ts hp x) (zjh P ts hp l):=by
 simp only [zjh]
 cases h1:znj P ts hp x with
 | none=>rfl
 | some v=>cases h2:zjh P ts hp l<;>rfl
def z45 (l:Option (List Value)):Option Value :=
 match l with
 | some [v]=>some v
 | some vs=>some (.tuple vs.toArray)
 | none=>none
@[simp] theorem jn7 (v:Value):z45 (some [v])=some v:=nr rfl
@[simp] theorem jn8 (v u:Value) (l:List Value):z45 (some (v::u::l))=some (.tuple (v::u::l).toArray):=nr rfl
@[simp] theorem jn6:z45 (some [])=some (.tuple #[]):=nr rfl
@[simp] theorem jn5 (rs:List ResultVar):zn1 P rs ts hp=z45 (zjh P ts hp rs):=nr rfl
@[simp] theorem zcj (next:GS->Prop) (K:Exit->GS->Prop) (s:GS):zbx next K .normal s=next s:=nr rfl
@[simp] theorem z0r (next:GS->Prop) (K:Exit->GS->Prop) (s:GS):zbx next K .ret s=K .ret s:=nr rfl
@[simp] theorem zwf (next:GS->Prop) (K:Exit->GS->Prop) (i:Nat) (s:GS):zbx next K (.exit i) s=K (.exit i) s:=nr rfl
@[simp] theorem zwg (next:GS->Prop) (K:Exit->GS->Prop) (i:Nat) (s:GS):zbx next K (.goto i) s=K (.goto i) s:=nr rfl
@[simp] theorem zk0 (next:GS->Prop) (K:Exit->GS->Prop) (ch:List PanicEntry) (s:GS):zbx next K (.panic ch) s=K (.panic ch) s:=nr rfl
@[simp] theorem zof (i:Nat) (K:Exit->GS->Prop) (ch:List PanicEntry) (s:GS):zd9 i K (.panic ch) s=K (.panic ch) s:=nr rfl
@[simp] theorem zpb (l:Nat) (J:GS->Prop) (K:Exit->GS->Prop) (s:GS):ziq l J K .normal s=K .normal s:=nr rfl
@[simp] theorem zyn (l:Nat) (J:GS->Prop) (K:Exit->GS->Prop) (s:GS):ziq l J K .ret s=K .ret s:=nr rfl
@[simp] theorem zvh (l i:Nat) (J:GS->Prop) (K:Exit->GS->Prop) (s:GS):ziq l J K (.exit i) s=K (.exit i) s:=nr rfl
@[simp] theorem zq4 (l:Nat) (ch:List PanicEntry) (J:GS->Prop) (K:Exit->GS->Prop) (s:GS):ziq l J K (.panic ch) s=K (.panic ch) s:=nr rfl
@[simp] theorem zdh (i:Nat) (K:Exit->GS->Prop) (s:GS):zd9 i K .normal s=K .normal s:=nr rfl
@[simp] theorem zuk (i:Nat) (K:Exit->GS->Prop) (s:GS):zd9 i K .ret s=K .ret s:=nr rfl
@[simp] theorem zj3 (i j:Nat) (K:Exit->GS->Prop) (s:GS):zd9 i K (.exit j) s=if j=i then K .normal s else K (.exit j) s:=nr rfl
@[simp] theorem zqk (i j:Nat) (K:Exit->GS->Prop) (s:GS):zd9 i K (.goto j) s=K (.goto j) s:=nr rfl
theorem wN:(∀ (J:GS->Prop) (K:Exit->GS->Prop) (s:GS),zbx J K .normal s=J s)/\(∀ (J:GS->Prop) (K:Exit->GS->Prop) (s:GS),zbx J K .ret s=K .ret s)/\(∀ (J:GS->Prop) (K:Exit->GS->Prop) (i:Nat) (s:GS),zbx J K (.exit i) s=K (.exit i) s) /\
  (∀ (J:GS->Prop) (K:Exit->GS->Prop) (i:Nat) (s:GS),zbx J K (.goto i) s=K (.goto i) s)/\(∀ (J:GS->Prop) (K:Exit->GS->Prop) (ch:List PanicEntry) (s:GS),zbx J K (.panic ch) s=K (.panic ch) s) /\
  (∀ (i:Nat) (K:Exit->GS->Prop) (s:GS),zd9 i K .normal s=K .normal s)/\(∀ (i:Nat) (K:Exit->GS->Prop) (s:GS),zd9 i K .ret s=K .ret s)/\(∀ (i j:Nat) (K:Exit->GS->Prop) (s:GS),zd9 i K (.goto j) s=K (.goto j) s)/\(∀ (i:Nat) (K:Exit->GS->Prop) (ch:List PanicEntry) (s:GS),zd9 i K (.panic ch) s=K (.panic ch) s) /\
  (∀ (l:Nat) (J:GS->Prop) (K:Exit->GS->Prop) (s:GS),ziq l J K .normal s=K .normal s)/\(∀ (l:Nat) (J:GS->Prop) (K:Exit->GS->Prop) (s:GS),ziq l J K .ret s=K .ret s)/\(∀ (l i:Nat) (J:GS->Prop) (K:Exit->GS->Prop) (s:GS),ziq l J K (.exit i) s=K (.exit i) s)/\∀ (l:Nat) (ch:List PanicEntry) (J:GS->Prop) (K:Exit->GS->Prop) (s:GS),ziq l J K (.panic ch) s=K (.panic ch) s :=
 ⟨zcj,z0r,zwf,zwg,zk0,zdh,zuk,zqk,zof,zpb,zyn,zvh,zq4⟩
theorem wT:(∀ (a:Oper) (i:Nat) (l:List Oper),(a::l).take (i+1)=a::l.take i)/\(∀ l:List Oper,l.take 0=[])/\(∀ (a:Oper) (i:Nat) (l:List Oper),(a::l).drop (i+1)=l.drop i)/\(∀ l:List Oper,l.drop 0=l)/\∀ n:Nat,0+n=n:=⟨λ_ _ _=>rfl,λ_=>rfl,λ_ _ _=>rfl,λ_=>rfl,Nat.zero_add⟩
end

section
variable {P:Program}
theorem zcw {T:TypeId} {m:Nat} (h1:zfm P T=some true) (h2:zaz P T=some m) (c:Array Value) (off:Nat):zb5 P T c off=if off+m<=c.size then some (.agg (c.extract off (off+m))) else none:=by
 simp [zb5,h1,h2]
def zk5 (v:Option Value):Option Value :=
 match v with
 | some v=>if zkv v then some v else none
 | none=>none
@[simp] theorem jid (b:Bool):zk5 (some (.bool b))=some (.bool b):=nr rfl
@[simp] theorem jlc (k:IntKind) (n:Int):zk5 (some (.int k n))=some (.int k n):=nr rfl
@[simp] theorem z7t (a:Option Addr):zk5 (some (.pointer a))=some (.pointer a):=nr rfl
@[simp] theorem jdz (a:Option Addr) (n c:Nat):zk5 (some (.slice a n c))=some (.slice a n c):=nr rfl
@[simp] theorem jie (f:Fn) (a b:Array Value):zk5 (some (.func f a b))=some (.func f a b):=nr rfl
@[simp] theorem jbu (s:ByteArray):zk5 (some (.string s))=some (.string s):=nr rfl
theorem zcq {T:TypeId} (h1:zfm P T=some false) (c:Array Value) (off:Nat):zb5 P T c off=zk5 c[off]?:=by
 unfold zb5 zk5
 simp only [h1]
 rfl
theorem zb6 {T:TypeId} {z:Value} (h:∀ w,(zeroValue T).run P w=.ok z w):zbm P T=some z:=by
 have h:=h default
 unfold zbm
 unfold zeroValue typeInfo at h
 cases hi:P.info? T with
 | none=>simp [hi,stuck] at h
 | some i =>
  simp [hi] at h
  cases hz:i.zero with
  | none=>simp [hz,unsupported] at h
  | some u=>simp [hz] at h;simp [hz,h]
theorem zam {T:TypeId} {m:Nat} (h:∀ w,(sizeOf T).run P w=.ok m w):zaz P T=some m:=by
 have h:=h default
 unfold zaz
 unfold sizeOf typeInfo at h
 cases hi:P.info? T with
 | none=>simp [hi,stuck] at h
 | some i=>simp [hi] at h;simp [h]
theorem za8 {T:TypeId} {b:Bool} (h:∀ w,(isAgg T).run P w=.ok b w):zfm P T=some b:=by
 have h:=h default
 unfold zfm
 unfold isAgg underlying at h
 cases hi:P.underlying T with
 | none=>simp [hi,stuck] at h
 | some i=>cases i<;>simp_all
theorem zeu {T e:TypeId} {n m:Nat} (hu:P.underlying T=some (.array n e)) (hs:zaz P e=some m):zbj P T=some (.inr m):=by simp [zbj,hu,hs]
theorem zxh {T e:TypeId} {n:Nat} {k:IntKind} (hu:P.underlying T=some (.array n e)) (he:P.underlying e=some (.int k)) (hs:zaz P e=some 1) (hg:P.eqGuardType P.depth T=false):zwp P T=some n:=by
 simp [zwp,hu,he,hs,hg]
theorem z2f {T:TypeId} (hu:P.underlying T=some .bool):zmt P T=true:=by simp [zmt,hu]
end

def tsL:List (Nat×Value)->Nat->Value
 | []=>λ_=>zcm
 | (k,v)::l=>upd (tsL l) k v
def hpL (G:Hp):List (Nat×Blk)->Hp
 | []=>G
 | (k,b)::m=>upd (hpL G m) k (some b)
@[simp] theorem joj (t:Nat):tsL [] t=zcm:=nr rfl
@[simp] theorem znu (k:Nat) (v:Value) (l:List (Nat×Value)) (t:Nat):tsL ((k,v)::l) t=if t=k then v else tsL l t:=nr rfl
@[simp] theorem zaw (G:Hp):hpL G []=G:=nr rfl
@[simp] theorem zaq (G:Hp) (k:Nat) (b:Blk) (m:List (Nat×Blk)) (t:Nat):hpL G ((k,b)::m) t=if t=k then some b else hpL G m t:=nr rfl

theorem zd7:∀ {l:List (Nat×Value)} {t:Nat},tsL l t=zcm\/(t,tsL l t)∈l
 | [],_=>.inl rfl
 | (k,v)::l,t=>by
  rw [znu]
  split
  ·rename_i e;subst e;exact .inr (by simp)
  ·rcases zd7 (l:=l) (t:=t) with h|h
   ·exact .inl h
   ·exact .inr (List.mem_cons_of_mem _ h)
theorem za5 {G:Hp}:∀ {m:List (Nat×Blk)} {k:Nat} {b:Blk},hpL G m k=some b->(k,b)∈m\/G k=some b
 | [],_,_,h=>.inr h
 | (q,c)::m,k,b,h=>by
  rw [zaq] at h
  split at h
  ·rename_i e;subst e;cases h;exact .inl (by simp)
  ·exact (za5 h).imp (List.mem_cons_of_mem _) id
theorem zbc {G:Hp}:∀ {m:List (Nat×Blk)} {k:Nat},(∀ p∈m,100<=p.1)->k<100->hpL G m k=G k
 | [],_,_,_=>rfl
 | (q,c)::m,k,h,hk=>by
  have:=h (q,c) (by simp)
  rw [zaq,if_neg (by simp at this;omega)]
  exact zbc (λp hp=>h p (List.mem_cons_of_mem _ hp)) hk
theorem zf3 {G:Hp} (hGF:zbo G) {m:List (Nat×Blk)} {rs:List Nat} (h:∀ p∈m,p.1∈rs):rst (hpL G m) rs=hpL G m:=funext λk=>by
 unfold rst
 split
 ·rfl
 ·rename_i hk
  cases hb:hpL G m k with
  | none=>rfl
  | some b =>
   rcases za5 hb with h1|h1
   ·exact absurd (.inr (h _ h1)) hk
   ·exact absurd (.inl (hGF k b h1).1) hk

theorem za3 {C:Ctx} {G:Hp} {s:GS} {m m0:List (Nat×Blk)} (l:List (Nat×Value)) (B:Nat) (hG:C.G=G) (hGF:zbo G) (h0:C.hp0=hpL G m0) (hB:100<=B) (hl:∀ p∈l,s.ts p.1=p.2/\zap (dom (hpL G m)) p.2)
  (hm:∀ p∈m,s.hp p.1=some p.2/\p.2.ids (dom (hpL G m))/\100<=p.1/\p.1<B) (hk:∀ p∈m0,100<=p.1/\hpL G m p.1=s.hp p.1):Weak C s ⟨tsL l,hpL G m,B,s.yc⟩ where
 ts t:=by
  rcases zd7 (l:=l) (t:=t) with h|h
  ·exact .inl h
  ·exact .inr ⟨(hl _ h).1.symm,(hl _ h).2⟩
 hp k hk:=by
  dsimp only
  cases hb:hpL G m k with
  | none=>exact .inl rfl
  | some b =>
   rcases za5 hb with h|h
   ·exact .inr (hm _ h).1.symm
   ·have:=(hGF k b h).1;omega
 ids k b hb:=by
  rcases za5 hb with h|h
  ·exact (hm _ h).2.1
  ·exact Blk.flat_ids ((hGF k b h).2)
 keep k h1k hd:=by
  rw [h0] at hd
  dsimp only
  unfold dom at hd
  cases hb:hpL G m0 k with
  | none=>exact absurd hb hd
  | some b =>
   rcases za5 hb with h|h
   ·exact (hk _ h).2
   ·have hlt:=(hGF k b h).1;omega
 glob k hlt:=by rw [hG];exact zbc (λp hp=>(hm p hp).2.2.1) hlt
 yc:=rfl
 free x hx:=by
  dsimp only at hx |-
  cases hb:hpL G m x with
  | none=>rfl
  | some b =>
   rcases za5 hb with h|h
   ·have:=(hm _ h).2.2.2;simp at this;omega
   ·have:=(hGF x b h).1;omega
 low:=hB

theorem zcl {P:Program} {G:Hp} {f:FuncId} {args:Array Value} {hp hp':Hp} {rs:List Nat} {res:Res} {nk:Nat} {K:Eff->Prop} (h:Fun P G f args hp' rs res) (h1:∀ k∈rs,hp' k=hp k) (h2:∀ k,k<100->hp' k=G k) (h3:res.at nk) (hk:K (res.eff rs)):zik P G f args hp nk K :=
 ⟨hp',rs,res,h1,h2,h,h3,hk⟩

@[simp] theorem jmv (D:Nat->Prop) (b:Bool):zap D (.bool b)=True:=nr rfl
@[simp] theorem jp0 (D:Nat->Prop) (k:IntKind) (n:Int):zap D (.int k n)=True:=nr rfl
@[simp] theorem jf7 (D:Nat->Prop) (s:ByteArray):zap D (.string s)=True:=nr rfl
@[simp] theorem jp1 (D:Nat->Prop) (a:Addr):zap D (.pointer (some a))=D a.block:=nr rfl
@[simp] theorem jjx (D:Nat->Prop) (a:Addr) (n c:Nat):zap D (.slice (some a) n c)=D a.block:=nr rfl
@[simp] theorem jmw (D:Nat->Prop) (fn:Fn) (a b:Array Value):zap D (.func fn a b)=((∀ x∈a,zaj D x)/\∀ x∈b,zaj D x):=nr rfl
@[simp] theorem jjw (D:Nat->Prop) (t:TypeId) (v:Value):zap D (.iface t v)=zaj D v:=nr rfl
@[simp] theorem jpz (D:Nat->Prop) (l:List Value):zap D (.agg l.toArray)↔∀ x∈l,zah D x:=by simp [zap,zax]
@[simp] theorem jjy (D:Nat->Prop):zap D undef=True:=by simp [undef,zap]
@[simp] theorem jpx (D:Nat->Prop) (k:IntKind) (n:Int):zaj D (.int k n)=True:=nr rfl
@[simp] theorem jpy (D:Nat->Prop) (k:IntKind) (n:Int):zah D (.int k n)=True:=nr rfl
@[simp] theorem jjb (l:List Value) (T:TypeId) (D:Nat->Prop):(Blk.mk l.toArray T).ids D↔∀ x∈l,zah D x:=by simp [Blk.ids]

@[simp] theorem zny (x:Int):IntKind.u64.wrap x=x%18446744073709551616:=by simp [IntKind.wrap,IntKind.bits,IntKind.signed]
@[simp] theorem jlp (x:Int):IntKind.i64.wrap x=Int.bmod x 18446744073709551616:=by
 rw [Int.bmod_def]
 simp only [IntKind.wrap,IntKind.bits,IntKind.signed]
 simp
 split<;>split<;>omega
@[simp] theorem jjf:IntKind.u64.bits=64:=rfl
@[simp] theorem jje:IntKind.i64.bits=64:=rfl

def wi (z:Int) (k:Nat):Int:=z / 2^(64*k)%18446744073709551616
def di (z:Int) (k:Nat):Int:=z / 2^(32*k)%4294967296
def car (z y c:Int) (i:Nat):Int:=(z%2^(32*i)+y%2^(32*i)+c) / 2^(32*i)

theorem zbq (z:Int) (k:Nat):0<=wi z k:=Int.emod_nonneg _ (by omega)
theorem zbw (z:Int) (k:Nat):wi z k<18446744073709551616:=Int.emod_lt_of_pos _ (by omega)
theorem zm0 (z:Int) (k:Nat):0<=di z k:=Int.emod_nonneg _ (by omega)
theorem zm1 (z:Int) (k:Nat):di z k<4294967296:=Int.emod_lt_of_pos _ (by omega)

theorem zgm (i:Nat):(2:Int)^(32*(i+1))=2^(32*i)*4294967296:=by
 rw [Nat.mul_add,Int.pow_add];rfl
theorem zbe (i:Nat):(0:Int)<2^(32*i):=Int.pow_pos (by decide)

theorem zdw (z M B:Int) (hM:0<M) (hB:0<B):z%(M*B)=z%M+M*(z / M%B):=by
 have h1:=Int.emod_add_mul_ediv z M
 have h2:=Int.emod_add_mul_ediv (z / M) B
 have h3:=Int.emod_nonneg z (b:=M) (by omega)
 have h4:=Int.emod_lt_of_pos z hM
 have h5:=Int.emod_nonneg (z / M) (b:=B) (by omega)
 have h6:=Int.emod_lt_of_pos (z / M) hB
 have e:z=(z%M+M*(z / M%B))+(M*B)*(z / M / B):=by
  have:M*B*(z / M / B)=M*(B*(z / M / B)):=Int.mul_assoc ..
  rw [this]
  have h7:M*(z / M)=M*(z / M%B+B*(z / M / B)):=by rw [h2]
  rw [Int.mul_add] at h7
  omega
 have hnn:0<=z%M+M*(z / M%B):=by
  have:=Int.mul_nonneg (Int.le_of_lt hM) h5;omega
 have hlt:z%M+M*(z / M%B)<M*B:=by
  have:M*(z / M%B)<=M*(B - 1):=Int.mul_le_mul_of_nonneg_left (by omega) (Int.le_of_lt hM)
  rw [Int.mul_sub] at this
  omega
 conv=>lhs;rw [e]
 rw [Int.add_mul_emod_self_left]
 exact Int.emod_eq_of_lt hnn hlt

theorem zll (z y c M:Int) (hM:0<M):(z+y+c) / M=z / M+y / M+(z%M+y%M+c) / M:=by
 have h1:=Int.emod_add_mul_ediv z M
 have h2:=Int.emod_add_mul_ediv y M
 have:z+y+c=(z%M+y%M+c)+M*(z / M+y / M):=by rw [Int.mul_add];omega
 rw [this,Int.add_mul_ediv_left _ _ (by omega)]
 omega

theorem je5 (z y c:Int) (i:Nat):(di z i+di y i+car z y c i)%4294967296=di (z+y+c) i:=by
 unfold di car
 rw [zll z y c _ (zbe i)]
 omega
theorem z2i (z y c:Int) (i:Nat):(di z i+di y i+car z y c i) / 4294967296=car z y c (i+1):=by
 unfold di car
 rw [zgm,zdw z _ _ (zbe i) (by omega),zdw y _ _ (zbe i) (by omega)]
 generalize hM:(2:Int)^(32*i)=M
 have hp:0<M:=hM▸zbe i
 have e:z%M+M*(z / M%4294967296)+(y%M+M*(y / M%4294967296))+c=(z%M+y%M+c)+M*(z / M%4294967296+y / M%4294967296):=by rw [Int.mul_add];omega
 rw [e,<-Int.ediv_ediv_of_nonneg (Int.le_of_lt hp),Int.add_mul_ediv_left _ _ (by omega)]
 congr 1
 omega
theorem zsk (z y c:Int):car z y c 0=c:=by simp [car,Int.emod_one]
theorem zsj (z y c:Int) (h0:0<=c) (h1:c<=1) (i:Nat):0<=car z y c i/\car z y c i<=1:=by
 unfold car
 generalize hM:(2:Int)^(32*i)=M
 have hp:0<M:=hM▸zbe i
 have h3:=Int.emod_nonneg z (b:=M) (by omega)
 have h4:=Int.emod_lt_of_pos z hp
 have h5:=Int.emod_nonneg y (b:=M) (by omega)
 have h6:=Int.emod_lt_of_pos y hp
 refine ⟨Int.ediv_nonneg (by omega) (by omega),?_⟩
 have:(z%M+y%M+c) / M<2:=Int.ediv_lt_of_lt_mul hp (by omega)
 omega
theorem jl1 (z y c:Int) (h0:0<=c) (h1:c<=1) (i:Nat):((di z i+di y i+car z y c i)%18446744073709551616).tmod 4294967296=di (z+y+c) i:=by
 have:=zsj z y c h0 h1 i
 have:=zm0 z i;have:=zm1 z i;have:=zm0 y i;have:=zm1 y i
 rw [Int.tmod_eq_emod_of_nonneg (by omega),Int.emod_eq_of_lt (a:=_+_) (by omega) (by omega),je5]
theorem jq7 (z y c:Int) (h0:0<=c) (h1:c<=1) (i:Nat):((di z i+di y i+car z y c i)%18446744073709551616).tdiv 4294967296%18446744073709551616=car z y c (i+1):=by
 have:=zsj z y c h0 h1 i
 have:=zm0 z i;have:=zm1 z i;have:=zm0 y i;have:=zm1 y i
 rw [Int.tdiv_eq_ediv_of_nonneg (by omega),<-z2i]
 omega
@[simp] theorem js4 (z:Int) (k:Nat):di z k%18446744073709551616=di z k:=by have:=zm0 z k;have:=zm1 z k;omega

def sz (z:Int):Int:=Int.bmod z 115792089237316195423570985008687907853269984665640564039457584007913129639936
theorem jo2 (z:Int):z%115792089237316195423570985008687907853269984665640564039457584007913129639936=wi z 0+18446744073709551616*wi z 1+340282366920938463463374607431768211456*wi z 2+6277101735386680763835789423207666416102355444464034512896*wi z 3:=by
 simp only [wi];omega
theorem weq (a b:Int):(wi a 0==wi b 0&&(wi a 1==wi b 1&&(wi a 2==wi b 2&&wi a 3==wi b 3)))=decide (sz a=sz b):=by
 rw [Bool.eq_iff_iff]
 simp only [Bool.and_eq_true,beq_iff_eq,decide_eq_true_eq]
 have h1:=jo2 a
 have h2:=jo2 b
 have e:sz a=sz b↔a%115792089237316195423570985008687907853269984665640564039457584007913129639936=b%115792089237316195423570985008687907853269984665640564039457584007913129639936:=by
  unfold sz
  rw [Int.bmod_def,Int.bmod_def]
  constructor<;>intro h
  ·split at h<;>split at h<;>omega
  ·have h:a%((115792089237316195423570985008687907853269984665640564039457584007913129639936:Nat):Int)=b%((115792089237316195423570985008687907853269984665640564039457584007913129639936:Nat):Int):=h
   rw [h]
 rw [e]
 constructor
 ·rintro ⟨h3,h4,h5,h6⟩;rw [h1,h2,h3,h4,h5,h6]
 ·intro h
  simp only [wi]
  refine ⟨?_,?_,?_,?_⟩<;>omega
theorem wne (a b:Int):(!wi a 0==wi b 0||(!wi a 1==wi b 1||(!wi a 2==wi b 2||!wi a 3==wi b 3)))=!decide (sz a=sz b):=by
 rw [<-weq];simp [Bool.not_and]
def i64 (n:Int):Prop:=-9223372036854775808<=n/\n<9223372036854775808
instance (n:Int):Decidable (i64 n):=by unfold i64;infer_instance
theorem zsi (x:Int):i64 (Int.bmod x 18446744073709551616):=by
 unfold i64;rw [Int.bmod_def];constructor<;>split<;>omega
theorem z64 (z:Int):sz (Int.bmod (wi z 0) 18446744073709551616)=sz z↔i64 (sz z):=by
 simp only [wi,sz,i64,Int.bmod_def]
 constructor
 ·intro h;constructor<;>(repeat' split at h)<;>(repeat' split)<;>omega
 ·rintro ⟨h1,h2⟩;(repeat' split at h1)<;>(repeat' split)<;>omega
theorem zyl (z:Int) (h:i64 (sz z)):Int.bmod (wi z 0) 18446744073709551616=sz z:=by
 simp only [wi,sz,i64,Int.bmod_def] at *
 obtain ⟨h1,h2⟩:=h
 (repeat' split at h1)<;>(repeat' split)<;>omega
def zb8 (a b:Int):Int:=if a<b then -1 else if a=b then 0 else 1
end Go.Gy
namespace Go.Gy
open Go Go.RowKit Go.Proofs.Tryz
theorem follows:prog.follows .mixedOrders=true:=by kernel_rfl
section
variable {P:Program} {C:Ctx} {n:Nat} {d:List Deferred} {ro:Option Nat} {s:GS} {K:Exit->GS->Prop}
theorem gwS {x y:Code} (h:GW P C n d ro x s (zbx (λs'=>GW P C n d ro y s' K) K)):GW P C n d ro (.seq x y) s K:=zho h
theorem gwK (h:K .normal s):GW P C n d ro .skip s K:=zw0 h
theorem gwT (h:K .ret s):GW P C n d ro .ret s K:=zwz h
theorem gwE {id:Nat} (h:K (.exit id) s):GW P C n d ro (.exit id) s K:=z8b h
theorem gwG {id:Nat} (h:K (.goto id) s):GW P C n d ro (.goto id) s K:=z8c h
theorem gwL {id:Nat} (h:K .normal s):GW P C n d ro (.label id) s K:=zsd h
theorem gwB {id:Nat} {c:Code} (h:GW P C n d ro c s (zd9 id K)):GW P C n d ro (.block id c) s K:=zmk h
theorem gwC {t:Tmp} {x y:Code} {b:Bool} (ht:b=true->GW P C n d ro x s K) (hf:b=false->GW P C n d ro y s K) (hb:s.ts t=.bool b:=by simp;rfl):GW P C n d ro (.cond (.tmp t) x y) s K:=zqe hb ht hf
theorem gwR {id:Nat} {l:List Oper} (pn:List FuncId) (h:∀ (Q:QQ),(∀ ts hp tr yc,true=true->K .normal ⟨ts,hp,s.B+8*l.length,yc⟩->Q.q ts hp tr yc)->(∀ pv tr,true=true->(∀ yc,K (.panic [{ v:=pv,recovered:=false }]) ⟨zhw l s.ts,s.hp,s.B,yc⟩)->Q.p pv tr)->zhg P C.G ⟨C.Y,pn,false⟩ s.B Q [] 0 l s.ts s.hp [] s.yc false false)
  (hdst:(zg1 n l&&zry P l)=true:=by kernel_rfl):GW P C n d ro (.region id l.toArray false) s K:=zde pn hdst λQ hQ hP=>h Q (λts hp tr yc _=>hQ ts hp tr yc) (λpv tr _=>hP pv tr)
theorem gwD {id:Nat} {l:List Oper} (pn:List FuncId) (h:∀ (Q:QQ),(∀ ts hp tr yc,chk .any l.toArray tr=true->K .normal ⟨ts,hp,s.B+8*l.length,yc⟩->Q.q ts hp tr yc)->(∀ pv tr,chk .any l.toArray tr=true->(∀ yc,K (.panic [{ v:=pv,recovered:=false }]) ⟨zhw l s.ts,s.hp,s.B,yc⟩)->Q.p pv tr)->zhg prog C.G ⟨C.Y,pn,true⟩ s.B Q [] 0 l s.ts s.hp [] s.yc false false)
  (hB:Region.lexFrom .any l.toArray l.length 0 (Array.replicate l.length false)=true:=by kernel_rfl) (hdst:(zg1 n l&&zry prog l)=true:=by kernel_rfl):GW prog C n d ro (.region id l.toArray true) s K:=z1v pn follows hB hdst h
theorem wM:(∀ (a:Oper) (l:List Oper),(a::l).length=l.length+1)/\([]:List Oper).length=0:=⟨λ_ _=>rfl,rfl⟩
end
@[simp] theorem ts1:zaz prog 1=some 1:=zam sizeOf1
@[simp] theorem ts2:zaz prog 2=some 1:=zam sizeOf2
@[simp] theorem tz3:zbm prog 3=some (.int .i64 0):=zb6 zeroValue3
@[simp] theorem ts3:zaz prog 3=some 1:=zam sizeOf3
@[simp] theorem lb3:∀ c off,zb5 prog 3 c off=zk5 c[off]?:=zcq (za8 isAgg3)
@[simp] theorem js6:z3o prog 3=true:=by kernel_rfl
@[simp] theorem js5:z1g prog 3=none:=by kernel_rfl
@[simp] theorem tz4:zbm prog 4=some (.bool false):=zb6 zeroValue4
@[simp] theorem ts4:zaz prog 4=some 1:=zam sizeOf4
@[simp] theorem lb4:∀ c off,zb5 prog 4 c off=zk5 c[off]?:=zcq (za8 isAgg4)
@[simp] theorem bo4:zmt prog 4=true:=z2f underlying4
@[simp] theorem ts9:zaz prog 9=some 1:=zam sizeOf9
@[simp] theorem lb9:∀ c off,zb5 prog 9 c off=zk5 c[off]?:=zcq (za8 isAgg9)
@[simp] theorem js7:∀ c off,zb5 prog 22 c off=zk5 c[off]?:=zcq (za8 isAgg22)
@[simp] theorem juc:zbm prog 24=some (.agg #[.slice none 0 0,.int .i64 0,.int .i64 0,.int .i64 0,.int .i64 0,.int .i64 0]):=zb6 zeroValue24
@[simp] theorem jsc:zaz prog 24=some 6:=zam sizeOf24
@[simp] theorem js8:∀ c off,zb5 prog 24 c off=if off+6<=c.size then some (.agg (c.extract off (off+6))) else none:=zcw (za8 isAgg24) jsc
@[simp] theorem jpa:fdX prog 24 0=some (22,0):=by simp only [fdX,underlying24,zam sizeOf22];kernel_rfl
@[simp] theorem jpb:fdX prog 24 1=some (3,1):=by simp only [fdX,underlying24,zam sizeOf3];kernel_rfl
@[simp] theorem jpc:fdX prog 24 2=some (3,2):=by simp only [fdX,underlying24,zam sizeOf3];kernel_rfl
@[simp] theorem jpd:fdX prog 24 3=some (3,3):=by simp only [fdX,underlying24,zam sizeOf3];kernel_rfl
@[simp] theorem jpe:fdX prog 24 4=some (3,4):=by simp only [fdX,underlying24,zam sizeOf3];kernel_rfl
@[simp] theorem jpf:fdX prog 24 5=some (3,5):=by simp only [fdX,underlying24,zam sizeOf3];kernel_rfl
@[simp] theorem jtu:zbj prog 24=some (.inl [(0,1),(1,1),(2,1),(3,1),(4,1),(5,1)]):=by simp only [zbj,underlying24];kernel_rfl
@[simp] theorem js9:∀ c off,zb5 prog 25 c off=zk5 c[off]?:=zcq (za8 isAgg25)
@[simp] theorem jud:zbm prog 27=some (.agg #[.int .i64 0,.slice none 0 0]):=zb6 zeroValue27
@[simp] theorem jsd:zaz prog 27=some 2:=zam sizeOf27
@[simp] theorem jta:∀ c off,zb5 prog 27 c off=if off+2<=c.size then some (.agg (c.extract off (off+2))) else none:=zcw (za8 isAgg27) jsd
@[simp] theorem jpg:fdX prog 27 0=some (3,0):=by simp only [fdX,underlying27,zam sizeOf3];kernel_rfl
@[simp] theorem jph:fdX prog 27 1=some (25,1):=by simp only [fdX,underlying27,zam sizeOf25];kernel_rfl
@[simp] theorem jtv:zbj prog 27=some (.inl [(0,1),(1,1)]):=by simp only [zbj,underlying27];kernel_rfl
@[simp] theorem jt9:zaz prog 28=some 1:=zam sizeOf28
@[simp] theorem jtb:∀ c off,zb5 prog 28 c off=zk5 c[off]?:=zcq (za8 isAgg28)
@[simp] theorem jue:zbm prog 30=some (.agg #[.int .u64 0,.int .u64 0,.int .u64 0,.int .u64 0]):=zb6 zeroValue30
@[simp] theorem jse:zaz prog 30=some 4:=zam sizeOf30
@[simp] theorem jtc:∀ c off,zb5 prog 30 c off=if off+4<=c.size then some (.agg (c.extract off (off+4))) else none:=zcw (za8 isAgg30) jse
@[simp] theorem jtw:zbj prog 30=some (.inr 1):=zeu underlying30 (zam sizeOf28)
@[simp] theorem jq0:z1g prog 30=some 4:=by kernel_rfl
@[simp] theorem js0:zwp prog 30=some 4:=zxh underlying30 underlying28 (zam sizeOf28) eqGuardType30
@[simp] theorem juf:zbm prog 32=some (.agg #[.int .u64 0,.int .u64 0,.int .u64 0,.int .u64 0,.int .u64 0,.int .u64 0,.int .u64 0,.int .u64 0]):=zb6 zeroValue32
@[simp] theorem jsf:zaz prog 32=some 8:=zam sizeOf32
@[simp] theorem jtd:∀ c off,zb5 prog 32 c off=if off+8<=c.size then some (.agg (c.extract off (off+8))) else none:=zcw (za8 isAgg32) jsf
@[simp] theorem jpi:fdX prog 32 0=some (30,0):=by simp only [fdX,underlying32,zam sizeOf30];kernel_rfl
@[simp] theorem jpj:fdX prog 32 1=some (30,4):=by simp only [fdX,underlying32,zam sizeOf30];kernel_rfl
@[simp] theorem jtx:zbj prog 32=some (.inl [(0,4),(4,4)]):=by simp only [zbj,underlying32];kernel_rfl
@[simp] theorem jug:zbm prog 33=some (.agg #[.int .i64 0,.int .i64 0,.int .i64 0]):=zb6 zeroValue33
@[simp] theorem jsg:zaz prog 33=some 3:=zam sizeOf33
@[simp] theorem jte:∀ c off,zb5 prog 33 c off=if off+3<=c.size then some (.agg (c.extract off (off+3))) else none:=zcw (za8 isAgg33) jsg
@[simp] theorem jty:zbj prog 33=some (.inr 1):=zeu underlying33 (zam sizeOf3)
@[simp] theorem jq1:z1g prog 33=some 3:=by kernel_rfl
@[simp] theorem js1:zwp prog 33=some 3:=zxh underlying33 underlying3 (zam sizeOf3) eqGuardType33
@[simp] theorem jr7:snF prog 32=some ([(30,0),(30,4)],8):=by kernel_rfl
@[simp] theorem jr6:z1g prog 32=none:=by kernel_rfl
@[simp] theorem jr8:z3o prog 32=false:=by kernel_rfl
@[simp] theorem juh:zbm prog 35=some (.agg #[.int .i64 0,.int .u64 0,.int .u64 0,.int .u64 0,.int .u64 0,.int .u64 0,.int .u64 0,.int .u64 0,.int .u64 0,.int .i64 0,.int .i64 0,.int .i64 0,.int .i64 0,.int .i64 0,.int .i64 0,.int .i64 0,.int .i64 0,.int .i64 0,.int .i64 0,.int .i64 0,.int .i64 0]):=zb6 zeroValue35
@[simp] theorem jsh:zaz prog 35=some 21:=zam sizeOf35
@[simp] theorem jtf:∀ c off,zb5 prog 35 c off=if off+21<=c.size then some (.agg (c.extract off (off+21))) else none:=zcw (za8 isAgg35) jsh
@[simp] theorem jpk:fdX prog 35 0=some (3,0):=by simp only [fdX,underlying35,zam sizeOf3];kernel_rfl
@[simp] theorem jpl:fdX prog 35 1=some (32,1):=by simp only [fdX,underlying35,zam sizeOf32];kernel_rfl
@[simp] theorem jpm:fdX prog 35 2=some (33,9):=by simp only [fdX,underlying35,zam sizeOf33];kernel_rfl
@[simp] theorem jpn:fdX prog 35 3=some (33,12):=by simp only [fdX,underlying35,zam sizeOf33];kernel_rfl
@[simp] theorem jpo:fdX prog 35 4=some (33,15):=by simp only [fdX,underlying35,zam sizeOf33];kernel_rfl
@[simp] theorem jpp:fdX prog 35 5=some (33,18):=by simp only [fdX,underlying35,zam sizeOf33];kernel_rfl
@[simp] theorem jq2:zwp prog 35=none:=by kernel_rfl
@[simp] theorem jr9:zgd prog 35=some [(3,0),(32,1),(33,9),(33,12),(33,15),(33,18)]:=by kernel_rfl
@[simp] theorem jtz:zbj prog 35=some (.inl [(0,1),(1,8),(9,3),(12,3),(15,3),(18,3)]):=by simp only [zbj,underlying35];kernel_rfl
@[simp] theorem jtg:∀ c off,zb5 prog 36 c off=zk5 c[off]?:=zcq (za8 isAgg36)
@[simp] theorem jui:zbm prog 38=some (.agg #[.int .u64 0,.int .u64 0,.int .u64 0,.int .u64 0,.int .u64 0,.int .u64 0,.int .u64 0,.int .u64 0,.int .i64 0,.int .i64 0,.int .i64 0,.int .i64 0,.int .i64 0,.int .i64 0]):=zb6 zeroValue38
@[simp] theorem jsi:zaz prog 38=some 14:=zam sizeOf38
@[simp] theorem jth:∀ c off,zb5 prog 38 c off=if off+14<=c.size then some (.agg (c.extract off (off+14))) else none:=zcw (za8 isAgg38) jsi
@[simp] theorem jpq:fdX prog 38 0=some (32,0):=by simp only [fdX,underlying38,zam sizeOf32];kernel_rfl
@[simp] theorem jpr:fdX prog 38 1=some (33,8):=by simp only [fdX,underlying38,zam sizeOf33];kernel_rfl
@[simp] theorem jps:fdX prog 38 2=some (33,11):=by simp only [fdX,underlying38,zam sizeOf33];kernel_rfl
@[simp] theorem jq3:zwp prog 38=none:=by kernel_rfl
@[simp] theorem jsa:zgd prog 38=some [(32,0),(33,8),(33,11)]:=by kernel_rfl
@[simp] theorem jt0:zbj prog 38=some (.inl [(0,8),(8,3),(11,3)]):=by simp only [zbj,underlying38];kernel_rfl
@[simp] theorem juj:zbm prog 41=some (.int .i64 0):=zb6 zeroValue41
@[simp] theorem jua:zaz prog 41=some 1:=zam sizeOf41
@[simp] theorem jti:∀ c off,zb5 prog 41 c off=zk5 c[off]?:=zcq (za8 isAgg41)
@[simp] theorem juk:zbm prog 70=some (.agg #[.int .i64 0,.int .i64 0,.int .i64 0]):=zb6 zeroValue70
@[simp] theorem jsj:zaz prog 70=some 3:=zam sizeOf70
@[simp] theorem jtj:∀ c off,zb5 prog 70 c off=if off+3<=c.size then some (.agg (c.extract off (off+3))) else none:=zcw (za8 isAgg70) jsj
@[simp] theorem jt1:zbj prog 70=some (.inr 1):=zeu underlying70 (zam sizeOf3)
@[simp] theorem jul:zbm prog 72=some (.agg #[.int .i64 0,.int .i64 0,.int .i64 0,.int .i64 0,.int .i64 0,.int .i64 0]):=zb6 zeroValue72
@[simp] theorem jsk:zaz prog 72=some 6:=zam sizeOf72
@[simp] theorem jtk:∀ c off,zb5 prog 72 c off=if off+6<=c.size then some (.agg (c.extract off (off+6))) else none:=zcw (za8 isAgg72) jsk
@[simp] theorem jpt:fdX prog 72 0=some (70,0):=by simp only [fdX,underlying72,zam sizeOf70];kernel_rfl
@[simp] theorem jpu:fdX prog 72 1=some (70,3):=by simp only [fdX,underlying72,zam sizeOf70];kernel_rfl
@[simp] theorem jt2:zbj prog 72=some (.inl [(0,3),(3,3)]):=by simp only [zbj,underlying72];kernel_rfl
@[simp] theorem jtl:∀ c off,zb5 prog 82 c off=zk5 c[off]?:=zcq (za8 isAgg82)
@[simp] theorem jtm:∀ c off,zb5 prog 83 c off=zk5 c[off]?:=zcq (za8 isAgg83)
@[simp] theorem jum:zbm prog 85=some (.agg #[.pointer none,.pointer none]):=zb6 zeroValue85
@[simp] theorem jub:zaz prog 85=some 2:=zam sizeOf85
@[simp] theorem jpv:fdX prog 85 0=some (83,0):=by simp only [fdX,underlying85,zam sizeOf83];kernel_rfl
@[simp] theorem jpw:fdX prog 85 1=some (83,1):=by simp only [fdX,underlying85,zam sizeOf83];kernel_rfl
@[simp] theorem jt3:zbj prog 85=some (.inl [(0,1),(1,1)]):=by simp only [zbj,underlying85];kernel_rfl
@[simp] theorem jun:zbm prog 96=some (.agg #[.int .u64 0,.int .u64 0,.int .u64 0,.int .u64 0,.int .u64 0,.int .u64 0,.int .u64 0,.int .u64 0]):=zb6 zeroValue96
@[simp] theorem jsl:zaz prog 96=some 8:=zam sizeOf96
@[simp] theorem jtn:∀ c off,zb5 prog 96 c off=if off+8<=c.size then some (.agg (c.extract off (off+8))) else none:=zcw (za8 isAgg96) jsl
@[simp] theorem jt4:zbj prog 96=some (.inr 1):=zeu underlying96 (zam sizeOf28)
@[simp] theorem jri:∀ c off,zb5 prog 109 c off=zk5 c[off]?:=zcq (za8 isAgg109)
@[simp] theorem jsm:zbm prog 136=some (.agg #[.int .i64 0,.int .i64 0,.int .i64 0]):=zb6 zeroValue136
@[simp] theorem jsb:zaz prog 136=some 3:=zam sizeOf136
@[simp] theorem jma:fdX prog 136 0=some (3,0):=by simp only [fdX,underlying136,zam sizeOf3];kernel_rfl
@[simp] theorem jmb:fdX prog 136 1=some (3,1):=by simp only [fdX,underlying136,zam sizeOf3];kernel_rfl
@[simp] theorem jmc:fdX prog 136 2=some (3,2):=by simp only [fdX,underlying136,zam sizeOf3];kernel_rfl
@[simp] theorem jrs:zbj prog 136=some (.inl [(0,1),(1,1),(2,1)]):=by simp only [zbj,underlying136];kernel_rfl
@[simp] theorem jsn:zbm prog 149=some (.agg #[.int .u64 0,.int .u64 0,.int .u64 0,.int .u64 0,.int .u64 0,.int .u64 0,.int .u64 0,.int .u64 0,.int .u64 0,.int .u64 0,.int .u64 0,.int .u64 0,.int .u64 0,.int .u64 0,.int .u64 0,.int .u64 0]):=zb6 zeroValue149
@[simp] theorem joh:zaz prog 149=some 16:=zam sizeOf149
@[simp] theorem jrj:∀ c off,zb5 prog 149 c off=if off+16<=c.size then some (.agg (c.extract off (off+16))) else none:=zcw (za8 isAgg149) joh
@[simp] theorem jrk:∀ c off,zb5 prog 167 c off=zk5 c[off]?:=zcq (za8 isAgg167)
@[simp] theorem joi:zaz prog 171=some 7:=zam sizeOf171
@[simp] theorem jrl:∀ c off,zb5 prog 171 c off=if off+7<=c.size then some (.agg (c.extract off (off+7))) else none:=zcw (za8 isAgg171) joi
@[simp] theorem jrm:∀ c off,zb5 prog 194 c off=zk5 c[off]?:=zcq (za8 isAgg194)
end Go.Gy
namespace Go.Gy
open Go Go.RowKit
theorem gwq {Q : QQ} {c : Tr -> Prop} {K : (Nat -> Value) -> Hp -> Nat -> Prop} (hQ : ∀ ts hp tr yc, c tr -> K ts hp yc -> Q.q ts hp tr yc) {ts : Nat -> Value} {hp : Hp} {tr : Tr} {yc : Nat} (k : K ts hp yc) (h : c tr := by kernel_rfl) : Q.q ts hp tr yc := hQ _ _ _ _ h k
theorem gwX {P Q : Prop} (q : Q) (h : Q -> P := by first | exact gwR [] | exact gwD []) : P := h q
theorem gwA {P Q : Prop} (q : Q) (h : Q -> P := by first | exact gwS | (intro q; simp only [wN, wM, Nat.reduceAdd, Nat.reduceMul]; exact q) | exact gwB | exact gwT | exact gwK | exact gwE | exact gwG | exact gwL | (intro q; simp only [zj3]; exact q)) : P := h q
end Go.Gy
namespace Go.Gy
open Go Go.RowKit
section
variable {P : Program} {C : Ctx} {n : Nat} {d : List Deferred} {ro : Option Nat} {s : GS} {K : Exit -> GS -> Prop}
theorem jrf {t : Tmp} {x y : Code} (h : GW P C n d ro x s K) (hb : s.ts t = .bool true) : GW P C n d ro (.cond (.tmp t) x y) s K := zqe hb (λ_ => h) (λe => nomatch e)
theorem jre {t : Tmp} {x y : Code} (h : GW P C n d ro y s K) (hb : s.ts t = .bool false) : GW P C n d ro (.cond (.tmp t) x y) s K := zqe hb (λe => nomatch e) (λ_ => h)
end
theorem gwZ {P Q : Prop} (q : Q) (h : Q -> P := by first | exact gwS | (intro q; simp only [wN, wM, Nat.reduceAdd, Nat.reduceMul]; exact q) | exact gwB | exact gwT | exact gwK | exact gwE | exact gwG | exact gwL | (intro q; refine jrf q ?_; simp; done) | (intro q; refine jre q ?_; simp; done) | (intro q; simp only [zj3]; exact q)) : P := h q
theorem gwW {P Q : Prop} (q : Q) (h : Q -> P := by intro q; refine gwX ?_; intro Q hQ _; simp [hC, hY]; refine gwq hQ ?_; exact q) : P := h q
end Go.Gy
namespace Go.Gy
open Go Go.RowKit Go.Proofs Go.Proofs.Tryz
def lsB:Blk:=⟨#[.int .u64 0,.int .u64 0,.int .u64 0,.int .u64 9223372036854775808],.ty 30⟩
def cnB:Blk:=⟨#[.string ⟨#[98,111,100,105,101,115]⟩,.string ⟨#[109,97,115,115]⟩,.string ⟨#[99,111,110,115,116,97,110,116]⟩,.string ⟨#[98,111,120]⟩,.string ⟨#[116,111,112]⟩,.string ⟨#[110,101,97,114]⟩,.string ⟨#[109,101,116,104,111,100]⟩],.ty 171⟩
def G0L:List (Nat×Blk) :=
 (1,lsB) ::
 (0,cnB) ::
 []
def G0:Hp:=hpL (λ_=>none) G0L
theorem zn3 {k:Nat} {b:Blk} (h:G0 k=some b):(k,b)∈G0L:=(za5 h).resolve_right (λh=>nomatch h)
theorem G0F:zbo G0:=λk b h=>by
 have h1:∀ p∈G0L,p.1<100/\∀ x∈p.2.c,zbf x=true:=by
  simp [G0L,lsB
   ,cnB
  ]
 exact h1 _ (zn3 h)
@[simp] theorem zfr (k:Nat) (h:100<=k):G0 k=none:=by
 cases hb:G0 k with
 | none=>rfl
 | some b=>have:=(G0F k b hb).1;omega
theorem zj0 {k:Nat} (h:dom G0 k):k<100:=by
 refine Classical.byContradiction λhk=>?_
 exact h (zfr k (by omega))
theorem zeg (D:Nat->Prop) (k:Nat) (b:Blk) (h:G0 k=some b):b.ids D:=Blk.flat_ids ((G0F k b h).2)
@[simp] theorem ji4:G0 1=some lsB:=by simp [G0,G0L]
@[simp] theorem ji5:G0 0=some cnB:=by simp [G0,G0L]
theorem G0W:∃ W,GOK G0 W:=⟨{ (default:World) with heap:=Array.ofFn (n:=100) λk=>match G0 k.1 with|some b=>b.obj0|none=>.cells #[] 0 (0,0) },λk b h=>by
 have hk:=(G0F k b h).1
 simp [hk,h]⟩

def wd (z:Int):Value:=.agg #[.int .u64 (wi z 0),.int .u64 (wi z 1),.int .u64 (wi z 2),.int .u64 (wi z 3)]
@[simp] theorem jca (z:Int):wd z=.agg #[.int .u64 (wi z 0),.int .u64 (wi z 1),.int .u64 (wi z 2),.int .u64 (wi z 3)]:=rfl
def dg (z:Int):Value:=.agg #[.int .u64 (di z 0),.int .u64 (di z 1),.int .u64 (di z 2),.int .u64 (di z 3),.int .u64 (di z 4),.int .u64 (di z 5),.int .u64 (di z 6),.int .u64 (di z 7)]
@[simp] theorem jq8 (z:Int):dg z=.agg #[.int .u64 (di z 0),.int .u64 (di z 1),.int .u64 (di z 2),.int .u64 (di z 3),.int .u64 (di z 4),.int .u64 (di z 5),.int .u64 (di z 6),.int .u64 (di z 7)]:=rfl
def ng (z:Int):Bool:=decide (9223372036854775808<=wi z 3)

theorem dw0 (z:Int):wi z 0%4294967296=di z 0:=by simp only [wi,di];omega
theorem dw1 (z:Int):wi z 0 / 4294967296=di z 1:=by simp only [wi,di];omega
theorem dw2 (z:Int):wi z 1%4294967296=di z 2:=by simp only [wi,di];omega
theorem dw3 (z:Int):wi z 1 / 4294967296=di z 3:=by simp only [wi,di];omega
theorem dw4 (z:Int):wi z 2%4294967296=di z 4:=by simp only [wi,di];omega
theorem dw5 (z:Int):wi z 2 / 4294967296=di z 5:=by simp only [wi,di];omega
theorem dw6 (z:Int):wi z 3%4294967296=di z 6:=by simp only [wi,di];omega
theorem dw7 (z:Int):wi z 3 / 4294967296=di z 7:=by simp only [wi,di];omega
theorem wd0 (z:Int):di z 1*4294967296+di z 0=wi z 0:=by rw [<-dw0,<-dw1];omega
theorem wd1 (z:Int):di z 3*4294967296+di z 2=wi z 1:=by rw [<-dw2,<-dw3];omega
theorem wd2 (z:Int):di z 5*4294967296+di z 4=wi z 2:=by rw [<-dw4,<-dw5];omega
theorem wd3 (z:Int):di z 7*4294967296+di z 6=wi z 3:=by rw [<-dw6,<-dw7];omega
theorem wim (z:Int) (k:Nat):wi z k%18446744073709551616=wi z k:=Int.emod_emod_of_dvd _ (Int.dvd_refl _)

@[simp] theorem jov (z b:Int) (k:Nat):(wi z k).tmod b=wi z k%b:=Int.tmod_eq_emod_of_nonneg (zbq z k)
@[simp] theorem jou (z b:Int) (k:Nat):(wi z k).tdiv b=wi z k / b:=Int.tdiv_eq_ediv_of_nonneg (zbq z k)
theorem z37 (z:Int):Ret prog G0 60 #[wd z] (.bool (ng z)):=by
 refine zas G0F func60 rfl call60 rfl (by simp) (by simp [ntmps60]) ?_
 intro C hC _ hY
 repeat' first|refine gwZ ?_|refine gwW ?_|fail
 refine ⟨.inr trivial,?_⟩
 simp [results60,ng]
 have:=zbq z 3
 have:=zbw z 3
 rw [Int.fdiv_eq_ediv_of_nonneg _ (by omega)]
 rw [Bool.eq_iff_iff]
 simp
 omega
@[simp] theorem jto (z:Int) (K:Value->Prop):za2 prog G0 60 #[.agg #[.int .u64 (wi z 0),.int .u64 (wi z 1),.int .u64 (wi z 2),.int .u64 (wi z 3)]] K↔K (.bool (ng z)):=zac G0W (by kernel_rfl) (z37 z)

theorem zuw (z:Int):Ret prog G0 59 #[wd z] (dg z):=by
 refine zas G0F func59 rfl call59 (by simp) (by simp) (by simp [ntmps59]) ?_
 intro C hC _ hY
 repeat' first|refine gwZ ?_|(refine gwX ?_;intro Q hQ _;simp [hC,hY,dw0,dw1,dw2,dw3,dw4,dw5,dw6,dw7];refine gwq hQ ?_)|fail
 refine ⟨.inr trivial,?_⟩
 simp [results59,dw0,dw1,dw2,dw3,dw4,dw5,dw6,dw7]
@[simp] theorem jo7 (z:Int) (K:Value->Prop):za2 prog G0 59 #[.agg #[.int .u64 (wi z 0),.int .u64 (wi z 1),.int .u64 (wi z 2),.int .u64 (wi z 3)]] K↔K (dg z):=zac G0W (by kernel_rfl) (zuw z)

theorem z08 (z:Int):Ret prog G0 57 #[dg z] (wd z):=by
 refine zas G0F func57 rfl call57 (by simp) (by simp) (by simp [ntmps57]) ?_
 intro C hC _ hY
 repeat' first|refine gwZ ?_|refine gwW ?_|fail
 refine ⟨.inr trivial,?_⟩
 simp [results57,wd0,wd1,wd2,wd3,wim]
@[simp] theorem jsx (z:Int) (K:Value->Prop):za2 prog G0 57 #[Value.agg #[.int .u64 (di (z) 0),.int .u64 (di (z) 1),.int .u64 (di (z) 2),.int .u64 (di (z) 3),.int .u64 (di (z) 4),.int .u64 (di (z) 5),.int .u64 (di (z) 6),.int .u64 (di (z) 7)]] K↔K (wd z):=zac G0W (by kernel_rfl) (z08 z)

def zzo (z y c:Int) (i:Nat):GS :=
 ⟨tsL [(3,.pointer (some ⟨200,0,none⟩)),(4,.pointer (some ⟨208,0,none⟩)),(6,.pointer (some ⟨216,0,none⟩)),(7,.int .i64 i),(2,.int .u64 (car z y c i))],
 hpL G0 [(200,⟨#[.int .u64 (if 0<i then di (z+y+c) 0 else di z 0),.int .u64 (if 1<i then di (z+y+c) 1 else di z 1),.int .u64 (if 2<i then di (z+y+c) 2 else di z 2),.int .u64 (if 3<i then di (z+y+c) 3 else di z 3),
   .int .u64 (if 4<i then di (z+y+c) 4 else di z 4),.int .u64 (if 5<i then di (z+y+c) 5 else di z 5),.int .u64 (if 6<i then di (z+y+c) 6 else di z 6),.int .u64 (if 7<i then di (z+y+c) 7 else di z 7)],.ty 96⟩),
  (208,⟨#[.int .u64 (di y 0),.int .u64 (di y 1),.int .u64 (di y 2),.int .u64 (di y 3),.int .u64 (di y 4),.int .u64 (di y 5),.int .u64 (di y 6),.int .u64 (di y 7)],.ty 96⟩),
  (216,⟨#[.int .u64 0,.int .u64 0,.int .u64 0,.int .u64 0,.int .u64 0,.int .u64 0,.int .u64 0,.int .u64 0],.ty 96⟩)],300,0⟩
theorem zzn (z y c:Int) (h0:0<=c) (h1:c<=1):Ret prog G0 58 #[dg z,dg y,.int .u64 c] (dg (z+y+c)):=by
 refine zas G0F func58 rfl call58 (by simp) (by simp) (by simp [ntmps58]) ?_
 intro C hC hC0 hY
 repeat' first|refine gwZ ?_|refine gwW ?_|fail
 refine zbt 8 (zzo z y c) ?_ ?_ ?_
 ·refine za3 _ 300 hC G0F (m0:=[]) hC0 (by omega) ?_ ?_ ?_
  ·simp [zap,zax,zah,zaj,dom,zsk]
  ·simp [Blk.ids,zah,zaj]
  ·simp
 ·intro i hi
  have:i=0\/i=1\/i=2\/i=3\/i=4\/i=5\/i=6\/i=7:=by omega
  have A:=jl1 z y c h0 h1
  have A':=jq7 z y c h0 h1
  rcases this with rfl|rfl|rfl|rfl|rfl|rfl|rfl|rfl<;>unfold zzo
  all_goals
   repeat' first|refine gwZ ?_|refine gwW ?_|fail
  all_goals
   refine za3 _ 300 hC G0F (m0:=[]) hC0 (by omega) ?_ ?_ ?_
   ·simp [zap,zax,zah,zaj,dom,A,A']
   ·simp [Blk.ids,zah,zaj,A,A']
   ·simp
 ·unfold zzo
  repeat' first|refine gwZ ?_|refine gwW ?_|fail
  refine ⟨.inr trivial,?_⟩
  simp [results58]
@[simp] theorem jnq (z y c:Int) (h0:0<=c) (h1:c<=1) (K:Value->Prop):za2 prog G0 58 #[Value.agg #[.int .u64 (di (z) 0),.int .u64 (di (z) 1),.int .u64 (di (z) 2),.int .u64 (di (z) 3),.int .u64 (di (z) 4),.int .u64 (di (z) 5),.int .u64 (di (z) 6),.int .u64 (di (z) 7)],Value.agg #[.int .u64 (di (y) 0),.int .u64 (di (y) 1),.int .u64 (di (y) 2),.int .u64 (di (y) 3),.int .u64 (di (y) 4),.int .u64 (di (y) 5),.int .u64 (di (y) 6),.int .u64 (di (y) 7)],.int .u64 c] K↔K (dg (z+y+c)):=zac G0W (by kernel_rfl) (zzn z y c h0 h1)

theorem jq9 (z:Int) (k:Nat):4294967295 - di z k=di (-z - 1) k:=by
 unfold di
 generalize hM:(2:Int)^(32*k)=M
 have hp:0<M:=hM▸zbe k
 have e:(-z - 1) / M=-(z / M) - 1:=by
  have h1:=Int.emod_add_mul_ediv z M
  have h2:=Int.emod_nonneg z (b:=M) (by omega)
  have h3:=Int.emod_lt_of_pos z hp
  have:-z - 1=(M - 1 - z%M)+M*(-(z / M) - 1):=by rw [Int.mul_sub,Int.mul_neg];omega
  rw [this,Int.add_mul_ediv_left _ _ (by omega),Int.ediv_eq_zero_of_lt (by omega) (by omega)]
  omega
 rw [e]
 omega
def jav (z:Int) (i:Nat):GS :=
 ⟨tsL [(1,.pointer (some ⟨200,0,none⟩)),(2,.pointer (some ⟨208,0,none⟩)),(3,.int .i64 i)],
 hpL G0 [(200,⟨#[.int .u64 (if 0<i then di (-z - 1) 0 else di z 0),.int .u64 (if 1<i then di (-z - 1) 1 else di z 1),.int .u64 (if 2<i then di (-z - 1) 2 else di z 2),.int .u64 (if 3<i then di (-z - 1) 3 else di z 3),
   .int .u64 (if 4<i then di (-z - 1) 4 else di z 4),.int .u64 (if 5<i then di (-z - 1) 5 else di z 5),.int .u64 (if 6<i then di (-z - 1) 6 else di z 6),.int .u64 (if 7<i then di (-z - 1) 7 else di z 7)],.ty 96⟩),
  (208,⟨#[.int .u64 0,.int .u64 0,.int .u64 0,.int .u64 0,.int .u64 0,.int .u64 0,.int .u64 0,.int .u64 0],.ty 96⟩)],300,0⟩
theorem z4p (z:Int):Ret prog G0 62 #[dg z] (dg (-z - 1)):=by
 refine zas G0F func62 rfl call62 (by simp) (by simp) (by simp [ntmps62]) ?_
 intro C hC hC0 hY
 repeat' first|refine gwZ ?_|refine gwW ?_|fail
 refine zbt 8 (jav z) ?_ ?_ ?_
 ·refine za3 _ 300 hC G0F (m0:=[]) hC0 (by omega) ?_ ?_ ?_
  ·simp [zap,zax,zah,zaj,dom]
  ·simp [Blk.ids,zah,zaj]
  ·simp
 ·intro i hi
  have:i=0\/i=1\/i=2\/i=3\/i=4\/i=5\/i=6\/i=7:=by omega
  rcases this with rfl|rfl|rfl|rfl|rfl|rfl|rfl|rfl<;>unfold jav
  all_goals
   repeat' first|refine gwZ ?_|refine gwW ?_|fail
  all_goals
   refine za3 _ 300 hC G0F (m0:=[]) hC0 (by omega) ?_ ?_ ?_
   ·simp [zap,zax,zah,zaj,dom]
   ·simp [Blk.ids,zah,zaj,jq9]
   ·simp
 ·unfold jav
  repeat' first|refine gwZ ?_|refine gwW ?_|fail
  refine ⟨.inr trivial,?_⟩
  simp [results62]
@[simp] theorem jtt (z:Int) (K:Value->Prop):za2 prog G0 62 #[Value.agg #[.int .u64 (di (z) 0),.int .u64 (di (z) 1),.int .u64 (di (z) 2),.int .u64 (di (z) 3),.int .u64 (di (z) 4),.int .u64 (di (z) 5),.int .u64 (di (z) 6),.int .u64 (di (z) 7)]] K↔K (dg (-z - 1)):=zac G0W (by kernel_rfl) (z4p z)

@[simp] theorem jlz (k:Nat):di 0 k=0:=by simp [di]
theorem z14 (a b:Int):Ret prog G0 24 #[wd a,wd b] (.tuple #[wd (a+b),.bool (ng a==ng b&&ng (a+b) != ng a)]):=by
 refine zas G0F func24 rfl call24 (by simp) (by simp) (by simp [ntmps24]) ?_
 intro C hC hC0 hY
 cases hb:(ng a==ng b)
 all_goals
  repeat' first|refine gwZ ?_|(refine gwX ?_;intro Q hQ _;simp [hC,hY,hb];refine gwq hQ ?_)|fail
  refine ⟨.inr trivial,?_⟩
  simp [results24,hb]
@[simp] theorem jsz (a b:Int) (K:Value->Prop):za2 prog G0 24 #[Value.agg #[.int .u64 (wi (a) 0),.int .u64 (wi (a) 1),.int .u64 (wi (a) 2),.int .u64 (wi (a) 3)],Value.agg #[.int .u64 (wi (b) 0),.int .u64 (wi (b) 1),.int .u64 (wi (b) 2),.int .u64 (wi (b) 3)]] K↔K (.tuple #[wd (a+b),.bool (ng a==ng b&&ng (a+b) != ng a)]):=zac G0W (by kernel_rfl) (z14 a b)
theorem z5d (a b:Int):Ret prog G0 40 #[wd a,wd b] (.tuple #[wd (a - b),.bool (ng a != ng b&&ng (a - b) != ng a)]):=by
 refine zas G0F func40 rfl call40 (by simp) (by simp) (by simp [ntmps40]) ?_
 intro C hC hC0 hY
 have e:a+(-b - 1)+1=a - b:=by omega
 cases hb:(ng a != ng b)
 all_goals
  repeat' first|refine gwZ ?_|(refine gwX ?_;intro Q hQ _;simp [hC,hY,hb,e];refine gwq hQ ?_)|fail
  refine ⟨.inr trivial,?_⟩
  simp [results40,hb,e]
@[simp] theorem jt8 (a b:Int) (K:Value->Prop):za2 prog G0 40 #[Value.agg #[.int .u64 (wi (a) 0),.int .u64 (wi (a) 1),.int .u64 (wi (a) 2),.int .u64 (wi (a) 3)],Value.agg #[.int .u64 (wi (b) 0),.int .u64 (wi (b) 1),.int .u64 (wi (b) 2),.int .u64 (wi (b) 3)]] K↔K (.tuple #[wd (a - b),.bool (ng a != ng b&&ng (a - b) != ng a)]):=zac G0W (by kernel_rfl) (z5d a b)
@[simp] theorem jqe (z c:Int) (h0:0<=c) (h1:c<=1) (K:Value->Prop):za2 prog G0 58 #[Value.agg #[.int .u64 (di (z) 0),.int .u64 (di (z) 1),.int .u64 (di (z) 2),.int .u64 (di (z) 3),.int .u64 (di (z) 4),.int .u64 (di (z) 5),.int .u64 (di (z) 6),.int .u64 (di (z) 7)],.agg #[.int .u64 0,.int .u64 0,.int .u64 0,.int .u64 0,.int .u64 0,.int .u64 0,.int .u64 0,.int .u64 0],.int .u64 c] K↔K (dg (z+c)):=by
 have:=jnq z 0 c h0 h1 K
 simpa using this
theorem z4l (a:Int):Ret prog G0 26 #[wd a] (.tuple #[wd (-a),.bool (ng a&&ng (-a))]):=by
 refine zas G0F func26 rfl call26 (by simp) (by simp) (by simp [ntmps26]) ?_
 intro C hC hC0 hY
 have e:-a - 1+1=-a:=by omega
 cases hb:ng a
 all_goals
  repeat' first|refine gwZ ?_|(refine gwX ?_;intro Q hQ _;simp [hC,hY,hb,e];refine gwq hQ ?_)|fail
  refine ⟨.inr trivial,?_⟩
  simp [results26,hb,e]
@[simp] theorem jts (a:Int) (K:Value->Prop):za2 prog G0 26 #[Value.agg #[.int .u64 (wi (a) 0),.int .u64 (wi (a) 1),.int .u64 (wi (a) 2),.int .u64 (wi (a) 3)]] K↔K (.tuple #[wd (-a),.bool (ng a&&ng (-a))]):=zac G0W (by kernel_rfl) (z4l a)

theorem jiy {n : Int} (h : i64 n) (hn : n < 0) : wi n 1 = 18446744073709551615 /\ wi n 2 = 18446744073709551615 /\ wi n 3 = 18446744073709551615 := by
  unfold i64 at h; simp only [wi]; omega
theorem jiz {n : Int} (h : i64 n) (hn : ¬ n < 0) : wi n 1 = 0 /\ wi n 2 = 0 /\ wi n 3 = 0 := by
  unfold i64 at h; simp only [wi]; omega
theorem jot (n : Int) : n % 18446744073709551616 = wi n 0 := by simp [wi]
@[simp] theorem zaf (k : Nat) : wi 0 k = 0 := by simp [wi]

def jku (n : Int) (i : Nat) : GS :=
  ⟨tsL [(0, .int .i64 n), (2, .pointer (some ⟨200, 0, none⟩)), (3, .pointer (some ⟨232, 0, none⟩)), (4, .int .i64 (i + 1 : Nat))],
   hpL G0 [(200, ⟨#[.int .u64 0, .int .u64 0, .int .u64 0, .int .u64 0], .ty 30⟩),
     (232, ⟨#[.int .u64 (wi n 0), .int .u64 (if 0 < i then 18446744073709551615 else 0), .int .u64 (if 1 < i then 18446744073709551615 else 0), .int .u64 (if 2 < i then 18446744073709551615 else 0)], .ty 30⟩)], 300, 0⟩
theorem jaz (n : Int) (h : i64 n) : Ret prog G0 33 #[.int .i64 n] (wd n) := by
  refine zas G0F func33 rfl call33 (by simp) (by simp) (by simp [ntmps33]) ?_
  intro C hC hC0 hY
  repeat' (first | refine gwA ?_ | (refine gwX ?_; intro Q hQ hP; simp [hC, hY, jot]; refine gwq hQ ?_; clear hQ hP Q) | (refine gwC ?_ ?_ <;> (intro hb; try (cases hb; done))))
  refine zbt (if n < 0 then 3 else 0) (jku n) ?_ ?_ ?_
  · refine za3 _ 300 hC G0F (m0 := []) hC0 (by omega) ?_ ?_ ?_
    · simp [zap, zax, zah, zaj, dom]
    · simp [Blk.ids, zah, zaj]
    · simp
  · intro i hi
    by_cases hn : n < 0
    · rw [if_pos hn] at hi
      have : i = 0 \/ i = 1 \/ i = 2 := by omega
      rcases this with rfl | rfl | rfl <;> unfold jku
      all_goals
        repeat' (first | refine gwA ?_ | (refine gwX ?_; intro Q hQ hP; simp [hC, hY, hn]; refine gwq hQ ?_; clear hQ hP Q) | (refine gwC ?_ ?_ <;> (intro hb; try (cases hb; done))))
      all_goals
        refine za3 _ 300 hC G0F (m0 := []) hC0 (by omega) ?_ ?_ ?_
        · simp [zap, zax, zah, zaj, dom]
        · simp [Blk.ids, zah, zaj]
        · simp
    · rw [if_neg hn] at hi; omega
  · by_cases hn : n < 0
    · rw [if_pos hn]
      have e := jiy h hn
      unfold jku
      repeat' (first | refine gwA ?_ | (refine gwX ?_; intro Q hQ hP; simp [hC, hY]; refine gwq hQ ?_; clear hQ hP Q) | (refine gwC ?_ ?_ <;> (intro hb; try (cases hb; done))))
      refine ⟨.inr trivial, ?_⟩
      simp [results33, e]
    · rw [if_neg hn]
      have e := jiz h hn
      unfold jku
      repeat' (first | refine gwA ?_ | (refine gwX ?_; intro Q hQ hP; simp [hC, hY, hn]; refine gwq hQ ?_; clear hQ hP Q) | (refine gwC ?_ ?_ <;> (intro hb; try (cases hb; done))))
      refine ⟨.inr trivial, ?_⟩
      simp [results33, e]
@[simp] theorem of2 (n : Int) (h : i64 n) (K : Value -> Prop) : za2 prog G0 33 #[.int .i64 n] K ↔ K (wd n) := zac G0W (by kernel_rfl) (jaz n h)

theorem z3n (z : Int) : Ret prog G0 61 #[wd z] (.tuple #[.int .i64 (if i64 (sz z) then sz z else 0), .bool (decide (i64 (sz z)))]) := by
  refine zas G0F func61 rfl call61 (by simp) (by simp) (by simp [ntmps61]) ?_
  intro C hC hC0 hY
  have h := zsi (wi z 0)
  repeat' (first | refine gwA ?_ | (refine gwX ?_; intro Q hQ hP; simp [hC, hY, h]; refine gwq hQ ?_; clear hQ hP Q) | (refine gwC ?_ ?_ <;> (intro hb; try (cases hb; done))))
  all_goals
    refine ⟨.inr trivial, ?_⟩
    rw [wne] at hb
    simp at hb
    rw [z64] at hb
    simp [results61, hb]
  exact zyl z hb
@[simp] theorem jqs (z : Int) (K : Value -> Prop) : za2 prog G0 61 #[Value.agg #[.int .u64 (wi (z) 0), .int .u64 (wi (z) 1), .int .u64 (wi (z) 2), .int .u64 (wi (z) 3)]] K ↔ K (.tuple #[.int .i64 (if i64 (sz z) then sz z else 0), .bool (decide (i64 (sz z)))]) := zac G0W (by kernel_rfl) (z3n z)

theorem jb3 (z : Int) : sz z = wi z 0 + 18446744073709551616 * wi z 1 + 340282366920938463463374607431768211456 * wi z 2 + 6277101735386680763835789423207666416102355444464034512896 * wi z 3 - (if ng z then 115792089237316195423570985008687907853269984665640564039457584007913129639936 else 0) := by
  have h1 := jo2 z
  have := zbq z 0; have := zbw z 0; have := zbq z 1; have := zbw z 1; have := zbq z 2; have := zbw z 2; have := zbq z 3; have := zbw z 3
  simp only [ng, decide_eq_true_eq]
  unfold sz
  rw [Int.bmod_def]
  split <;> split <;> omega
theorem zel (z : Int) : ng z = decide (sz z < 0) := by
  have h1 := jb3 z
  have := zbq z 0; have := zbw z 0; have := zbq z 1; have := zbw z 1; have := zbq z 2; have := zbw z 2; have := zbq z 3; have := zbw z 3
  rw [Bool.eq_iff_iff]
  simp only [ng, decide_eq_true_eq] at h1 |-
  split at h1 <;> omega
def eqW (a b : Int) : Nat := if wi a 3 = wi b 3 then if wi a 2 = wi b 2 then if wi a 1 = wi b 1 then if wi a 0 = wi b 0 then 4 else 3 else 2 else 1 else 0
def z81 (a b : Int) (i : Nat) : GS :=
  ⟨tsL [(2, .pointer (some ⟨200, 0, none⟩)), (3, .pointer (some ⟨208, 0, none⟩)), (5, .int .i64 (3 - i))],
   hpL G0 [(200, ⟨#[.int .u64 (wi a 0), .int .u64 (wi a 1), .int .u64 (wi a 2), .int .u64 (wi a 3)], .ty 30⟩), (208, ⟨#[.int .u64 (wi b 0), .int .u64 (wi b 1), .int .u64 (wi b 2), .int .u64 (wi b 3)], .ty 30⟩)], 300, 0⟩
theorem z2m (a b : Int) : Ret prog G0 28 #[wd a, wd b] (.int .i64 (zb8 (sz a) (sz b))) := by
  refine zas G0F func28 rfl call28 (by simp) (by simp) (by simp [ntmps28]) ?_
  intro C hC hC0 hY
  repeat' (first | refine gwA ?_ | (refine gwX ?_; intro Q hQ hP; simp [hC, hY]; refine gwq hQ ?_; clear hQ hP Q) | (refine gwC ?_ ?_ <;> (intro hb; try (cases hb; done))))
  · rename_i hx
    refine ⟨.inr trivial, ?_⟩
    rw [zel, zel] at hx
    rw [zel] at hb
    simp at hb hx
    have : sz a < sz b := by omega
    simp [results28, zb8, this]
  · rename_i hx
    refine ⟨.inr trivial, ?_⟩
    rw [zel, zel] at hx
    rw [zel] at hb
    simp at hb hx
    have h1 : ¬ sz a < sz b := by omega
    have h2 : ¬ sz a = sz b := by omega
    simp [results28, zb8, h1, h2]
  · have hs : ng a = ng b := by simpa using hb
    have e1 := jb3 a
    have e2 := jb3 b
    rw [hs] at e1
    have := zbq a 0; have := zbw a 0; have := zbq a 1; have := zbw a 1; have := zbq a 2; have := zbw a 2; have := zbq a 3; have := zbw a 3
    have := zbq b 0; have := zbw b 0; have := zbq b 1; have := zbw b 1; have := zbq b 2; have := zbw b 2; have := zbq b 3; have := zbw b 3
    refine zbt (eqW a b) (z81 a b) ?_ ?_ ?_
    · refine za3 _ 300 hC G0F (m0 := []) hC0 (by omega) ?_ ?_ ?_
      · simp [zap, zax, zah, zaj, dom]
      · simp [Blk.ids, zah, zaj]
      · simp
    · intro i hi
      have : i = 0 /\ wi a 3 = wi b 3 \/ i = 1 /\ wi a 2 = wi b 2 \/ i = 2 /\ wi a 1 = wi b 1 \/ i = 3 /\ wi a 0 = wi b 0 := by unfold eqW at hi; (repeat' split at hi) <;> omega
      rcases this with ⟨rfl, h⟩ | ⟨rfl, h⟩ | ⟨rfl, h⟩ | ⟨rfl, h⟩ <;> unfold z81
      all_goals
        repeat' (first | refine gwA ?_ | (refine gwX ?_; intro Q hQ hP; simp [hC, hY, h]; refine gwq hQ ?_; clear hQ hP Q) | (refine gwC ?_ ?_ <;> (intro hb; try (cases hb; done))))
      all_goals
        refine za3 _ 300 hC G0F (m0 := []) hC0 (by omega) ?_ ?_ ?_
        · simp [zap, zax, zah, zaj, dom, h]
        · simp [Blk.ids, zah, zaj, h]
        · simp
    · unfold eqW
      (repeat' split) <;> unfold z81
      · rename_i q3 q2 q1 q0
        repeat' (first | refine gwA ?_ | (refine gwX ?_; intro Q hQ hP; simp [hC, hY]; refine gwq hQ ?_; clear hQ hP Q) | (refine gwC ?_ ?_ <;> (intro hb; try (cases hb; done))))
        refine ⟨.inr trivial, ?_⟩
        have : sz a = sz b := by omega
        simp [results28, zb8, this]
      all_goals
        rename_i h
        rcases Int.lt_or_gt_of_ne h with hlt | hlt
      all_goals
        have hnl := Int.not_lt.2 (Int.le_of_lt hlt)
        repeat' (first | refine gwA ?_ | (refine gwX ?_; intro Q hQ hP; simp [hC, hY, hlt, hnl]; refine gwq hQ ?_; clear hQ hP Q) | (refine gwC ?_ ?_ <;> (intro hb; try (cases hb; done))))
      all_goals
        refine ⟨.inr trivial, ?_⟩
        first
          | (have hc : sz a < sz b := by omega
             simp [results28, zb8, hc]; done)
          | (have hc : ¬ sz a < sz b := by omega
             have hd : ¬ sz a = sz b := by omega
             simp [results28, zb8, hc, hd]; done)
@[simp] theorem jq5 (a b : Int) (K : Value -> Prop) : za2 prog G0 28 #[Value.agg #[.int .u64 (wi (a) 0), .int .u64 (wi (a) 1), .int .u64 (wi (a) 2), .int .u64 (wi (a) 3)], Value.agg #[.int .u64 (wi (b) 0), .int .u64 (wi (b) 1), .int .u64 (wi (b) 2), .int .u64 (wi (b) 3)]] K ↔ K (.int .i64 (zb8 (sz a) (sz b))) := zac G0W (by kernel_rfl) (z2m a b)
@[simp] theorem jq6 (a : Int) (K : Value -> Prop) : za2 prog G0 28 #[Value.agg #[.int .u64 (wi (a) 0), .int .u64 (wi (a) 1), .int .u64 (wi (a) 2), .int .u64 (wi (a) 3)], .agg #[.int .u64 0, .int .u64 0, .int .u64 0, .int .u64 0]] K ↔ K (.int .i64 (zb8 (sz a) 0)) := by
  have := jq5 a 0 K
  have e : sz 0 = 0 := by decide
  rw [e] at this
  simpa using this
theorem z0k (a : Int) : Ret prog G0 133 #[wd a] (.int .i64 (zb8 (sz a) 0)) := by
  refine zas G0F func133 rfl call133 (by simp) (by simp) (by simp [ntmps133]) ?_
  intro C hC hC0 hY
  repeat' (first | refine gwA ?_ | (refine gwX ?_; intro Q hQ hP; simp [hC, hY]; refine gwq hQ ?_; clear hQ hP Q) | (refine gwC ?_ ?_ <;> (intro hb; try (cases hb; done))))
  refine ⟨.inr trivial, ?_⟩
  simp [results133]
@[simp] theorem jr4 (a : Int) (K : Value -> Prop) : za2 prog G0 133 #[Value.agg #[.int .u64 (wi (a) 0), .int .u64 (wi (a) 1), .int .u64 (wi (a) 2), .int .u64 (wi (a) 3)]] K ↔ K (.int .i64 (zb8 (sz a) 0)) := zac G0W (by kernel_rfl) (z0k a)
end Go.Gy
namespace Go.Gy
open Go Go.RowKit

def fa (n:Nat) (k:IntKind) (f:Nat->Int):Array Value:=Array.ofFn λj:Fin n=>.int k (f j)
@[simp] theorem jl9 (n:Nat) (k:IntKind) (f:Nat->Int):(fa n k f).size=n:=by simp [fa]
theorem zdi (n:Nat) (k:IntKind) (f:Nat->Int) (i:Nat) (h:i<n):(fa n k f)[i]? = some (.int k (f i)):=by simp [fa,h]
@[simp] theorem z9g (n:Nat) (k:IntKind) (f:Nat->Int) (i:Nat) (h:i<(fa n k f).size):(fa n k f)[i]=.int k (f i):=by simp [fa]
theorem zkc {n:Nat} {k:IntKind} {f:Nat->Int} {x:Value} (h:x∈fa n k f):∃ m,x=.int k m:=by
 simp only [fa,Array.mem_ofFn] at h
 obtain ⟨i,rfl⟩:=h
 exact ⟨_,rfl⟩
theorem zeh (n:Nat) (k:IntKind) (f:Nat->Int) (i:Nat) (v:Int):(fa n k f).setIfInBounds i (.int k v)=fa n k (upd f i v):=by
 apply Array.ext_getElem?
 intro j
 rw [Array.getElem?_setIfInBounds]
 by_cases hj:j<n
 ·rw [zdi _ _ _ _ hj,zdi _ _ _ _ hj]
  by_cases e:i=j
  ·subst e;simp [hj,upd]
  ·simp [e,upd,Ne.symm e]
 ·have h1:(fa n k f)[j]? = none:=by simp [fa];omega
  have h2:(fa n k (upd f i v))[j]? = none:=by simp [fa];omega
  rw [h1,h2]
  split<;>simp_all
@[simp] theorem jl8 (n:Nat) (k:IntKind) (f:Nat->Int):(fa n k f).all zkv 0 n=true:=by
 have:(fa n k f).all zkv=true:=Array.all_eq_true_iff_forall_mem.2 λx hx=>by obtain ⟨m,rfl⟩:=zkc hx;rfl
 simpa using this
@[simp] theorem jl7 (n:Nat) (k:IntKind) (f:Nat->Int):(fa n k f).all zbf 0 n=true:=by
 have:(fa n k f).all zbf=true:=Array.all_eq_true_iff_forall_mem.2 λx hx=>by obtain ⟨m,rfl⟩:=zkc hx;rfl
 simpa using this
theorem zad (l:List Value) (T:TypeId) (D:Nat->Prop):(Blk.mk l.toArray T).ids D↔∀ x∈l,zah D x:=by simp [Blk.ids]
theorem zco (n:Nat) (k:IntKind) (f:Nat->Int) (T:TypeId) (D:Nat->Prop):(Blk.mk (fa n k f) T).ids D:=by
 intro x hx
 obtain ⟨m,rfl⟩:=zkc hx
 trivial
theorem zlr (k:IntKind) (f:Nat->Int):fa 8 k f=#[.int k (f 0),.int k (f 1),.int k (f 2),.int k (f 3),.int k (f 4),.int k (f 5),.int k (f 6),.int k (f 7)]:=by
 apply Array.ext'
 simp [fa,Array.toList_ofFn,List.ofFn_succ]
theorem zgh (k:IntKind) (f:Nat->Int):fa 4 k f=#[.int k (f 0),.int k (f 1),.int k (f 2),.int k (f 3)]:=by
 apply Array.ext'
 simp [fa,Array.toList_ofFn,List.ofFn_succ]
theorem jl6 (k:IntKind) (f:Nat->Int):fa 16 k f=#[.int k (f 0),.int k (f 1),.int k (f 2),.int k (f 3),.int k (f 4),.int k (f 5),.int k (f 6),.int k (f 7),.int k (f 8),.int k (f 9),.int k (f 10),.int k (f 11),.int k (f 12),.int k (f 13),.int k (f 14),.int k (f 15)]:=by
 apply Array.ext'
 simp [fa,Array.toList_ofFn,List.ofFn_succ]

theorem zmb:∀ (l:List Value) (c:Array Value) (o j:Nat),(zcr c o l)[j]? = if o<=j/\j<o+l.length/\j<c.size then l[j - o]? else c[j]?
 | [],c,o,j=>by simp [zcr];omega
 | v::l,c,o,j=>by
  rw [zcr,zmb l,Array.getElem?_setIfInBounds,Array.size_setIfInBounds]
  by_cases e:o=j
  ·subst e
   rw [if_neg (by omega),if_pos rfl]
   by_cases h:o<c.size
   ·simp [h]
   ·simp [h]
  ·by_cases h:o+1<=j/\j<o+1+l.length/\j<c.size
   ·rw [if_pos h,if_pos (by simp;omega)]
    have:j - o=(j - (o+1))+1:=by omega
    rw [this,List.getElem?_cons_succ]
   ·rw [if_neg h,if_neg e,if_neg (by simp;omega)]
@[simp] theorem jbz (c:Array Value) (n:Nat) (k:IntKind) (g:Nat->Int) (h:c.size=n):zcr c 0 (fa n k g).toList=fa n k g:=by
 apply Array.ext_getElem?
 intro j
 rw [zmb]
 by_cases hj:j<n
 ·rw [if_pos (by simp;omega)]
  simp [hj,fa]
 ·rw [if_neg (by simp;omega)]
  have h1:c[j]? = none:=by simp;omega
  have h2:(fa n k g)[j]? = none:=by simp [fa];omega
  rw [h1,h2]
@[simp] theorem jcp (n:Nat) (k:IntKind) (f:Nat->Int):(fa n k f).extract 0 n=fa n k f:=by
 have:n=(fa n k f).size:=by simp
 conv=>lhs;rw [this]
 simp

def ze9 (A B:Int) (i:Nat):Int:=(A%2^(32*i))*B
def zl3 (A B:Int) (i k:Nat):Int:=(ze9 A B i%2^(32*(i+k))+2^(32*i)*di A i*(B%2^(32*k))) / 2^(32*(i+k))
def zvy (A B:Int) (i k j:Nat):Int:=if i<=j/\j<i+k then di (ze9 A B (i+1)) j else di (ze9 A B i) j
theorem zhz (A B:Int) (i:Nat):ze9 A B (i+1)=ze9 A B i+2^(32*i)*di A i*B:=by
 unfold ze9 di
 rw [zgm,zdw A _ _ (zbe i) (by omega),Int.add_mul]
theorem zzl (A B:Int) (i:Nat):zl3 A B i 0=0:=by
 unfold zl3
 have h1:=Int.emod_lt_of_pos (ze9 A B i) (zbe (i+0))
 have h2:=Int.emod_nonneg (ze9 A B i) (b:=2^(32*(i+0))) (by have:=zbe (i+0);omega)
 simp only [Nat.mul_zero,Int.pow_zero,Int.emod_one,Int.mul_zero,Int.add_zero]
 exact Int.ediv_eq_zero_of_lt h2 h1
theorem zro (A B:Int) (i k:Nat):0<=zl3 A B i k/\zl3 A B i k<4294967296:=by
 unfold zl3
 have hM:(2:Int)^(32*(i+k))=2^(32*i)*2^(32*k):=by rw [Nat.mul_add,Int.pow_add]
 have p1:=zbe i
 have p2:=zbe k
 have p3:=zbe (i+k)
 generalize hz:ze9 A B i=z
 have h1:=Int.emod_lt_of_pos z p3
 have h2:=Int.emod_nonneg z (b:=2^(32*(i+k))) (by omega)
 have h3:=Int.emod_lt_of_pos B p2
 have h4:=Int.emod_nonneg B (b:=2^(32*k)) (by omega)
 have h5:=zm0 A i
 have h6:=zm1 A i
 have h7:0<=2^(32*i)*di A i*(B%2^(32*k)):=Int.mul_nonneg (Int.mul_nonneg (by omega) h5) h4
 have h8:2^(32*i)*di A i*(B%2^(32*k))<=2^(32*i)*4294967295*2^(32*k) :=
  Int.mul_le_mul (Int.mul_le_mul_of_nonneg_left (by omega) (by omega)) (by omega) h4 (Int.mul_nonneg (by omega) (by omega))
 have h9:(2:Int)^(32*i)*4294967295*2^(32*k)=4294967295*2^(32*(i+k)):=by
  rw [hM,Int.mul_comm (2^(32*i)) 4294967295,Int.mul_assoc]
 refine ⟨Int.ediv_nonneg (by omega) (by omega),Int.ediv_lt_of_lt_mul p3 (by omega)⟩
theorem zzk (A B:Int) (i k:Nat):(di (ze9 A B i) (i+k)+di A i*di B k+zl3 A B i k) / 4294967296=zl3 A B i (k+1):=by
 have hM:(2:Int)^(32*(i+k))=2^(32*i)*2^(32*k):=by rw [Nat.mul_add,Int.pow_add]
 have p2:=zbe k
 have p3:=zbe (i+k)
 unfold zl3
 rw [show i+(k+1)=(i+k)+1 by omega,zgm,zgm,zdw _ _ _ p3 (by omega),zdw B _ _ p2 (by omega)]
 generalize hz:ze9 A B i=z
 unfold di
 generalize hD:(2:Int)^(32*(i+k))=M at *
 have e:z%M+M*(z / M%4294967296)+2^(32*i)*(A / 2^(32*i)%4294967296)*(B%2^(32*k)+2^(32*k)*(B / 2^(32*k)%4294967296)) =
   (z%M+2^(32*i)*(A / 2^(32*i)%4294967296)*(B%2^(32*k)))+M*(z / M%4294967296+A / 2^(32*i)%4294967296*(B / 2^(32*k)%4294967296)):=by
  rw [hM]
  generalize (2:Int)^(32*i)=P
  generalize (2:Int)^(32*k)=Q
  generalize A / P%4294967296=a
  generalize B / Q%4294967296=b
  generalize B%Q=c
  generalize z%(P*Q)=u
  generalize z / (P*Q)%4294967296=v
  have:P*a*(c+Q*b)=P*a*c+P*Q*(a*b):=by
   rw [Int.mul_add]
   congr 1
   rw [Int.mul_assoc P a,Int.mul_assoc P Q]
   congr 1
   rw [<-Int.mul_assoc,<-Int.mul_assoc,Int.mul_comm a Q]
  rw [this,Int.mul_add]
  omega
 rw [e,<-Int.ediv_ediv_of_nonneg (Int.le_of_lt p3),Int.add_mul_ediv_left _ _ (by omega)]
 congr 1
 omega
theorem jrq (A B:Int) (i k:Nat):(di (ze9 A B i) (i+k)+di A i*di B k+zl3 A B i k)%4294967296=di (ze9 A B (i+1)) (i+k):=by
 have hM:(2:Int)^(32*(i+k))=2^(32*i)*2^(32*k):=by rw [Nat.mul_add,Int.pow_add]
 have p3:=zbe (i+k)
 rw [zhz]
 unfold zl3
 generalize hz:ze9 A B i=z
 unfold di
 generalize hD:(2:Int)^(32*(i+k))=M at *
 have h1:=Int.emod_add_mul_ediv z M
 have h2:=Int.emod_add_mul_ediv B (2^(32*k))
 have h3:=Int.emod_add_mul_ediv (B / 2^(32*k)) 4294967296
 have e:z+2^(32*i)*(A / 2^(32*i)%4294967296)*B=(z%M+2^(32*i)*(A / 2^(32*i)%4294967296)*(B%2^(32*k))) +
   M*(z / M+A / 2^(32*i)%4294967296*(B / 2^(32*k)%4294967296)+4294967296*(A / 2^(32*i)%4294967296*(B / 2^(32*k) / 4294967296))):=by
  have hB:B=B%2^(32*k)+2^(32*k)*(B / 2^(32*k)%4294967296+4294967296*(B / 2^(32*k) / 4294967296)):=by rw [h3];omega
  generalize B / 2^(32*k)%4294967296=b at *
  generalize B / 2^(32*k) / 4294967296=h at *
  generalize B%2^(32*k)=c at *
  rw [hM]
  rw [hM] at h1
  generalize (2:Int)^(32*i)=P at *
  generalize (2:Int)^(32*k)=Q at *
  generalize A / P%4294967296=a
  rw [hB]
  have:P*a*(c+Q*(b+4294967296*h))=P*a*c+P*Q*(a*b)+P*Q*(4294967296*(a*h)):=by
   rw [Int.mul_add,Int.mul_add Q,Int.mul_add]
   have e1:P*a*(Q*b)=P*Q*(a*b):=by
    rw [Int.mul_assoc P a,Int.mul_assoc P Q];congr 1;rw [<-Int.mul_assoc,<-Int.mul_assoc,Int.mul_comm a Q]
   have e2:P*a*(Q*(4294967296*h))=P*Q*(4294967296*(a*h)):=by
    rw [Int.mul_assoc P a,Int.mul_assoc P Q];congr 1
    rw [Int.mul_left_comm a Q];congr 1
    rw [Int.mul_left_comm]
   rw [e1,e2];omega
  rw [this,Int.mul_add,Int.mul_add]
  omega
 rw [e,Int.add_mul_ediv_left _ _ (by omega)]
 omega
theorem zzs (A B:Int) (i:Nat) (h0:0<=B) (h1:B<2^(32*8)):0<=ze9 A B i/\ze9 A B i<2^(32*(i+8)):=by
 have p1:=zbe i
 have h2:=Int.emod_nonneg A (b:=2^(32*i)) (by omega)
 have h3:=Int.emod_lt_of_pos A p1
 unfold ze9
 refine ⟨Int.mul_nonneg h2 h0,?_⟩
 rw [Nat.mul_add,Int.pow_add]
 generalize (2:Int)^(32*i)=P at *
 generalize (2:Int)^(32*8)=Q at *
 have h4:A%P*B<=A%P*Q:=Int.mul_le_mul_of_nonneg_left (by omega) h2
 have h5:A%P*Q<P*Q:=Int.mul_lt_mul_of_pos_right h3 (by omega)
 omega
theorem z4z (A B:Int) (i:Nat) (h0:0<=B) (h1:B<2^(32*8)):zl3 A B i 8=di (ze9 A B (i+1)) (i+8):=by
 have hb:=zro A B i 8
 have hz:=zzs A B i h0 h1
 unfold zl3 at *
 rw [Int.emod_eq_of_lt hz.1 hz.2,Int.emod_eq_of_lt h0 h1,<-zhz] at *
 unfold di
 omega
theorem zzr (A B:Int) (i j:Nat) (h0:0<=B) (h1:B<2^(32*8)) (hj:i+8<=j):di (ze9 A B i) j=0:=by
 have hz:=zzs A B i h0 h1
 have e:(2:Int)^(32*j)=2^(32*(i+8))*2^(32*(j - (i+8))):=by rw [<-Int.pow_add];congr 1;omega
 have p:=zbe (j - (i+8))
 unfold di
 rw [Int.ediv_eq_zero_of_lt hz.1]
 ·rfl
 ·rw [e]
  have:(2:Int)^(32*(i+8))*1<=2^(32*(i+8))*2^(32*(j - (i+8))):=Int.mul_le_mul_of_nonneg_left (by omega) (by have:=zbe (i+8);omega)
  omega
theorem zca {n:Nat} {k:IntKind} {f g:Nat->Int} (h:∀ j,j<n->f j=g j):fa n k f=fa n k g:=by
 unfold fa;congr 1;funext j;rw [h j j.2]
theorem z4y (A B:Int) (i j:Nat) (hj:j<i):di (ze9 A B (i+1)) j=di (ze9 A B i) j:=by
 rw [zhz]
 unfold di
 have e:(2:Int)^(32*i)=2^(32*j)*(4294967296*2^(32*(i - j - 1))):=by
  rw [show (4294967296:Int)=2^32 by rfl,<-Int.pow_add,<-Int.pow_add];congr 1;omega
 rw [e,Int.mul_assoc,Int.mul_assoc (2^(32*j)),Int.mul_assoc 4294967296,Int.add_mul_ediv_left _ _ (by have:=zbe j;omega)]
 omega
theorem zzq (A B:Int) (i k:Nat):∀ j,upd (zvy A B i k) (i+k) (di (ze9 A B (i+1)) (i+k)) j=zvy A B i (k+1) j:=λj=>by
 unfold upd zvy
 by_cases e:j=i+k
 ·subst e;simp
 ·rw [if_neg e]
  by_cases h:i<=j/\j<i+k
  ·rw [if_pos h,if_pos (by omega)]
  ·rw [if_neg h,if_neg (by omega)]
theorem z4x (A B:Int) (i:Nat) (h0:0<=B) (h1:B<2^(32*8)):∀ j,upd (zvy A B i 8) (i+8) (zl3 A B i 8) j=di (ze9 A B (i+1)) j:=λj=>by
 unfold upd zvy
 by_cases e:j=i+8
 ·subst e;rw [if_pos rfl,z4z A B i h0 h1]
 ·rw [if_neg e]
  by_cases h:i<=j/\j<i+8
  ·rw [if_pos h]
  ·rw [if_neg h]
   by_cases hj:j<i
   ·exact (z4y A B i j hj).symm
   ·rw [zzr A B i j h0 h1 (by omega),zzr A B (i+1) j h0 h1 (by omega)]
@[simp] theorem jnt (A B:Int) (i k:Nat):zvy A B i k (i+k)=di (ze9 A B i) (i+k):=by unfold zvy;rw [if_neg (by omega)]
theorem jhq (A B:Int) (i k:Nat):0<=di (ze9 A B i) (i+k)+di A i*di B k+zl3 A B i k/\di (ze9 A B i) (i+k)+di A i*di B k+zl3 A B i k<18446744073709551616:=by
 have h1:=zm0 (ze9 A B i) (i+k);have h2:=zm1 (ze9 A B i) (i+k);have h3:=zm0 A i;have h4:=zm1 A i;have h5:=zm0 B k;have h6:=zm1 B k
 have h7:=zro A B i k
 have h8:0<=di A i*di B k:=Int.mul_nonneg h3 h5
 have h9:di A i*di B k<=4294967295*4294967295:=Int.mul_le_mul (by omega) (by omega) h5 (by omega)
 omega
theorem jrt (A B:Int) (i k:Nat):((di (ze9 A B i) (i+k)+di A i*di B k+zl3 A B i k)%18446744073709551616).tmod 4294967296=di (ze9 A B (i+1)) (i+k):=by
 have h:=jhq A B i k
 rw [Int.emod_eq_of_lt h.1 h.2,Int.tmod_eq_emod_of_nonneg h.1,jrq]
theorem jrr (A B:Int) (i k:Nat):((di (ze9 A B i) (i+k)+di A i*di B k+zl3 A B i k)%18446744073709551616).tdiv 4294967296%18446744073709551616=zl3 A B i (k+1):=by
 have h:=jhq A B i k
 have hb:=zro A B i (k+1)
 rw [Int.emod_eq_of_lt h.1 h.2,Int.tdiv_eq_ediv_of_nonneg h.1,zzk]
 omega
section
variable {P:Program} {G:Hp} {V:XV}
variable {C:Ctx} {n:Nat} {d:List Deferred} {ro:Option Nat} {s:GS} {K:Exit->GS->Prop} {yc:Nat}
theorem zfd (rest':List Oper) {ops:Array Oper} {base:Nat} {pn:List FuncId} {Q:Exit->Act->World->Prop} {Kn:(Nat->Value)->Hp->Nat->Prop} {Kp:Value->Prop} {hp0:Hp} {ts0:Nat->Value} {l0:List Oper} (hGF:zbo C.G) (hR:∀ y,C.Y=some y->zg9 P C y) (hb:100<=base):∀ (l:List Oper) (k:Nat) (ts:Nat->Value) (hp:Hp) (tr:Tr) (yc:Nat) (wr yd:Bool) (r:Nat->Nat) (a:Act) (W:World),
  (∀ o∈l,(((∀ dd,o.dst=some dd->dd<n)/\∀ c,o.op≠.defer c)/\unC P o)/\o∈l0)->(∀ t,(∀ o∈l0,o.dst≠some t)->ts t=ts0 t)->RI C n d r ts hp yc a W->(∀ x,base+8*k<=x->hp x=none)->(wr=false->∀ k b,hp0 k=some b->hp k=some b) ->
  (∀ ts hp yc r a W,Kn ts hp yc->RI C n d r ts hp yc a W->(∀ x,base+8*(k+l.length)<=x->hp x=none)->(∀ t,(∀ o∈l0,o.dst≠some t)->ts t=ts0 t)->wpListIn (Fw P ro) 0 P ops Q rest' a W) ->
  (∀ pv ts hp yc r a W,Kp pv->(∀ k b,hp0 k=some b->hp k=some b)->(∀ t,(∀ o∈l0,o.dst≠some t)->ts t=ts0 t)->RI C n d r ts hp yc a W->Q (.panic [{ v:=pv,recovered:=false }]) a W) ->
  zi5 P C.G ⟨C.Y,pn,false⟩ ops base (λts hp _ yc=>Kn ts hp yc) (λpv _=>Kp pv) k l ts hp tr yc wr yd->wpListIn (Fw P ro) 0 P ops Q (l++rest') a W
 | [],k,ts,hp,tr,yc,wr,yd,r,a,W,_,hts,hi,hn,_,hQ,_,h=>hQ ts hp yc r a W h hi (by simpa using hn) hts
 | o::l,k,ts,hp,tr,yc,wr,yd,r,a,W,hd,hts,hi,hn,hs0,hQ,hQp,h=>by
  have hlen:k+(o::l).length=(k+1)+l.length:=by simp;omega
  rw [hlen] at hQ
  refine wpListIn_step λK hK=>?_
  simp only [zi5] at h
  cases hw:zcs ops o ts with
  | none=>rw [hw] at h;exact h.elim
  | some b =>
   rw [hw] at h
   rw [zgt hi.rel hw]
   cases b with
   | true =>
    simp only at h
    simp only [if_true]
    obtain ⟨e,h1,hs,hyd,h3⟩:=zf8 hGF hi.glob h
    have hs1:(wr||!e.ws.isEmpty)=false->∀ k b,hp0 k=some b->zbi hp (e.ws++e.ns) k=some b:=λhwr k' b hk'=>by
     simp only [Bool.or_eq_false_iff] at hwr
     have e0:e.ws=[]:=by have:=hwr.2;simpa using this
     have hh:=hs0 hwr.1 k' b hk'
     rw [e0,List.nil_append,za6 (λhm=>by have:=hs.ns k' hm;rw [hn k' (by omega)] at hh;cases hh)]
     exact hh
    refine z39 hGF hR o e ts hp yc r a W 0 _ _ hi (hd o (by simp)).1.1 h1 (λx hx=>(hs.ws x hx).2) (λx hx=>?_) (λr' a' W' hpn hi'=>hK _ _ ?_) (λpv W' yc' hpn hi'=>?_)
    ·have:=hs.ns x hx;exact ⟨hn x (by omega),by omega⟩
    ·rw [hpn] at h3
     refine zfd rest' hGF hR hb l (k+1) _ _ _ _ _ _ r' a' W' (λo ho=>hd o (List.mem_cons_of_mem _ ho)) (λt ht=>(zd1 (ht o (hd o (by simp)).2)).trans (hts t ht)) hi' (λx hx=>?_) hs1 hQ hQp h3
     rw [za6 (λhm=>?_)]
     ·exact hn x (by omega)
     ·have:x∈zaa e.ws\/x∈zaa e.ns:=by simpa [zaa] using hm
      rcases this with h|h
      ·exact (hs.ws x h).2.1 (hn x (by omega))
      ·have:=hs.ns x h;omega
    ·rw [hpn] at h3
     obtain ⟨_,hwr,hkp⟩:=h3
     simp only [Bool.or_eq_false_iff] at hwr
     exact hQp pv ts hp yc' r a W' hkp (hs0 hwr.1) hts hi'
   | false =>
    simp only at h
    simp only [Bool.false_eq_true,if_false]
    exact ⟨zs9 (Y:=none) o ts r _ a W hi.rel ⟨h.1,(hd o (by simp)).1.2⟩,hK _ _ (zfd rest' hGF hR hb l (k+1) _ _ _ _ _ _ r _ W (λo ho=>hd o (List.mem_cons_of_mem _ ho)) (λt ht=>(zd1 (ht o (hd o (by simp)).2)).trans (hts t ht)) (hi.put_undef (hd o (by simp)).1.1.1) (λx hx=>hn x (by omega)) hs0 hQ hQp h.2)⟩

theorem zr0 {o:Oper} {a:Act} {W:World} {R Rp:Value->World->Prop} {x y:Operand} {t e:TypeId} {i:TypeInfo} {z:Value} {g sl cap g2 off2 m m':Nat} {cur:Array Value} {nw:List Value}
  (ho:o.op=.call { callee:=.builtin .append,args:=#[x,y],argTypes:=#[t,t] }) (ht:P.underlying t=some (.slice e)) (hi:P.info? e=some i) (hz:i.zero=some z)
  (hx:a.eval x=.slice (some ⟨g,0,none⟩) sl cap) (hg:W.heap[g]? = some (.cells cur e (0,0))) (hy:a.eval y=.slice (some ⟨g2,off2,none⟩) m m') (hl:nw.length=m*i.size) (hn:∀ j u,nw[j]? = some u->W.cell? ((⟨g2,off2,none⟩:Addr).add j)=some u)
  (hc:cap*i.size<=cur.size) (hsl:sl<=cap) (hb1:sl+m<=maxLen) (hb2:(sl+m)*i.bytes<=140737488355328) (h1:∀ u∈nw,u.oneCell'=true)
  (room:sl+m<=cap->R (.slice (some ⟨g,0,none⟩) (sl+m) cap) (W.setRow g (cur.toList.take (sl*i.size)++nw++cur.toList.drop (sl*i.size+nw.length)).toArray))
  (grow:cap<sl+m->∀ cap',sl+m<=cap'->R (.slice (some ⟨W.heap.size,0,none⟩) (sl+m) cap') (W.drew.alloc (.cells ((cur.toList.take (sl*i.size)).toArray++nw.toArray++Builtin.zeroCells z.cells (cap' - (sl+m))) e))):znz P o a W R Rp:=by
 unfold znz
 by_cases hr:sl+m<=cap
 ·have hfit:sl*i.size+nw.length<=cur.size:=by
   rw [hl,<-Nat.add_mul];exact Nat.le_trans (Nat.mul_le_mul_right _ hr) hc
  have h:=run_append_room (P:=P) W t o.type e i ht hi g sl cap cur hg ⟨g2,off2,none⟩ m m' _ hl hn h1 hr hfit
  simp only [execOp,ho,resolve,Sem.run_bind,Sem.run_pure,Result.andThen_ok,invoke,builtin,List.map_toArray,List.map_cons,List.map_nil,hx,hy,h]
  exact room hr
 ·have hlo:(cur.toList.take (sl*i.size)).length=sl*i.size:=by
   have:=Nat.mul_le_mul_right i.size hsl
   simp [List.length_take];omega
  have hold:∀ j u,(cur.toList.take (sl*i.size))[j]? = some u->W.cell? ((⟨g,0,none⟩:Addr).add j)=some u:=λj u hj=>by
   rw [List.getElem?_take] at hj
   split at hj
   ·rw [Addr.add_lit]
    simp only [World.cell?,hg,Nat.zero_add]
    simpa using hj
   ·cases hj
  have h:=run_append_grow (P:=P) W t o.type e i z ht hi hz ⟨g,0,none⟩ sl cap _ hlo hold ⟨g2,off2,none⟩ m m' _ hl hn (by omega) (by simp only [maxLen] at hb1;omega) (growslice_fits (by omega) hb2)
  simp only [execOp,ho,resolve,Sem.run_bind,Sem.run_pure,Result.andThen_ok,invoke,builtin,List.map_toArray,List.map_cons,List.map_nil,hx,hy,h]
  exact grow (by omega) _ (grownCap_ge _ _ _ _)
theorem zsl {r:Nat->Nat} {b:Blk} {W:World} {g q:Nat} {u:Value} (hg:W.heap[g]? = some (b.obj r)) (hq:b.c[q]? = some u) (hf:zbf u=true) (hrd:b.T.rd=true):W.cell? ⟨g,q,none⟩=some u:=by
 obtain ⟨c,T⟩:=b
 cases T with
 | ty t =>
  simp only [World.cell?,hg,Blk.obj,Array.getElem?_map]
  rw [hq];simp [zb9 hf]
 | raw t fr=>simpa [World.cell?,hg,Blk.obj] using hq
 | mp=>cases hrd
theorem zkx {r:Nat->Nat} {ts:Nat->Value} {hp:Hp} {a:Act} {W:World} {ro:Option Nat} {mn:Nat} {o:Oper} {tx ty:Tmp} {t e:TypeId} {i:TypeInfo} {z:Value} {k j off2 sl cap m m' nk:Nat} {b b2:Blk} {nw:List Value} {next:Act->World->Prop} {Q:Exit->Act->World->Prop}
  (h:RI C n d r ts hp yc a W) (hd:∀ dd,o.dst=some dd->dd<n)
  (ho:o.op=.call { callee:=.builtin .append,args:=#[.tmp tx,.tmp ty],argTypes:=#[t,t] }) (ht:P.underlying t=some (.slice e)) (hi:P.info? e=some i) (hz:i.zero=some z)
  (hx:ts tx=.slice (some ⟨k,0,none⟩) sl cap) (hk:100<=k) (hb:hp k=some b) (hbT:b.T=.ty e) (hbf:∀ x∈b.c,zbf x=true)
  (hy:ts ty=.slice (some ⟨j,off2,none⟩) m m') (hb2:hp j=some b2) (hrd:b2.T.rd=true) (hnl:nw.length=m*i.size) (hnw:∀ q u,nw[q]? = some u->b2.c[off2+q]? = some u) (hb2f:∀ x∈nw,zbf x=true) (h1:∀ u∈nw,u.oneCell'=true) (hzf:∀ c,∀ x∈Builtin.zeroCells z.cells c,zbf x=true)
  (hc:cap*i.size<=b.c.size) (hsl:sl<=cap) (hs1:sl+m<=maxLen) (hs2:(sl+m)*i.bytes<=140737488355328) (hnk:hp nk=none/\100<=nk)
  (room:sl+m<=cap->∀ r' a' W',RI C n d r' (zcx ts o.dst (.slice (some ⟨k,0,none⟩) (sl+m) cap)) (upd hp k (some ⟨(b.c.toList.take (sl*i.size)++nw++b.c.toList.drop (sl*i.size+nw.length)).toArray,e⟩)) yc a' W'->next a' W')
  (grow:cap<sl+m->∀ cap',sl+m<=cap'->∀ r' a' W',RI C n d r' (zcx ts o.dst (.slice (some ⟨nk,0,none⟩) (sl+m) cap')) (upd hp nk (some ⟨(b.c.toList.take (sl*i.size)).toArray++nw.toArray++Builtin.zeroCells z.cells (cap' - (sl+m)),e⟩)) yc a' W'->next a' W') :
  o.wpIn (Fw P ro) mn P a W next Q:=by
 obtain ⟨bc,bT⟩:=b
 simp only at hbT
 subst hbT
 simp only at hbf hc room grow
 have hg:W.heap[r k]? = some (.cells bc e (0,0)):=by
  have:=(h.sat k _ hb).1
  rw [Blk.obj_flat hbf] at this
  exact this
 have hn:∀ q u,nw[q]? = some u->W.cell? ((⟨r j,off2,none⟩:Addr).add q)=some u:=λq u hq=>by
  rw [Addr.add_lit]
  exact zsl (h.sat j b2 hb2).1 (hnw q u hq) (hb2f u (List.mem_of_getElem? hq)) hrd
 have ex:a.eval (.tmp tx)=.slice (some ⟨r k,0,none⟩) sl cap:=by
  have:=(h.rel tx).resolve_left (by rw [hx];simp [zcm])
  rw [hx] at this
  exact this.1
 have ey:a.eval (.tmp ty)=.slice (some ⟨r j,off2,none⟩) m m':=by
  have:=(h.rel ty).resolve_left (by rw [hy];simp [zcm])
  rw [hy] at this
  exact this.1
 have hdk:dom hp k:=by unfold dom;rw [hb];simp
 have fo:∀ x∈bc.toList.take (sl*i.size),zbf x=true:=λx hx=>hbf x (by simpa using List.mem_of_mem_take hx)
 have fn:∀ x∈nw,zbf x=true:=hb2f
 refine zgw (by rw [ho];intro c;simp) (zr0 (R:=λu W'=>next (a.put o.dst u) W') (Rp:=λ_ _=>False) ho ht hi hz ex hg ey hnl hn hc hsl hs1 hs2 h1 (λhr=>?_) (λhr cap' hcap=>?_)) (λu W' h=>h) (λpv W' h=>h.elim)
 ·have hf:∀ x∈(bc.toList.take (sl*i.size)++nw++bc.toList.drop (sl*i.size+nw.length)).toArray,zbf x=true:=λx hx=>by
   simp only [List.mem_toArray,List.mem_append] at hx
   rcases hx with (hx|hx)|hx
   ·exact fo x hx
   ·exact fn x hx
   ·exact hbf x (by simpa using List.mem_of_mem_drop hx)
  refine room hr r _ _ (h.after (e:=⟨.slice (some ⟨k,0,none⟩) (sl+m) cap,[],[(k,⟨_,.ty e⟩)],[],none,false⟩) hd (λ_ _=>rfl) (by simp [zap,zax,zah,zaj,zc7,hdk]) ⟨rfl,rfl,rfl,by simp,λq hq hnq=>?_,λp hp1=>?_,by simp,by simp⟩ (by simp [zaa,hdk,hk]) (by simp [zaa]))
  ·exact setRow_other W (r k) q _ (λe=>hnq _ (List.mem_singleton.2 rfl) e.symm)
  ·simp only [List.append_nil,List.mem_singleton] at hp1
   subst hp1
   refine ⟨?_,Blk.flat_ids hf⟩
   rw [Blk.obj_flat hf]
   exact setRow_heap W (r k) bc _ e (0,0) hg
 ·have hf:∀ x∈(bc.toList.take (sl*i.size)).toArray++nw.toArray++Builtin.zeroCells z.cells (cap' - (sl+m)),zbf x=true:=λx hx=>by
   simp only [Array.mem_append,List.mem_toArray] at hx
   rcases hx with (hx|hx)|hx
   ·exact fo x hx
   ·exact fn x hx
   ·exact hzf _ x hx
  have hnd:¬dom hp nk:=by unfold dom;simp [hnk.1]
  have hr':∀ q,dom hp q->upd r nk W.heap.size q=r q:=λq hq=>zab _ _ (λe=>hnd (e▸hq))
  have hv:(Value.slice (some ⟨W.heap.size,0,none⟩) (sl+m) cap')=ren (upd r nk W.heap.size) (.slice (some ⟨nk,0,none⟩) (sl+m) cap'):=by simp [ren,zay,zak,zan,za9]
  rw [hv]
  refine grow hr cap' hcap (upd r nk W.heap.size) _ _ (h.drew.after (e:=⟨.slice (some ⟨nk,0,none⟩) (sl+m) cap',[],[],[(nk,⟨_,.ty e⟩)],none,false⟩) hd hr' (by simp [zap,zax,zah,zaj,zc7,zaa]) ⟨rfl,rfl,rfl,(by show W.heap.size<=(W.heap.push _).size;simp),λq hq _=>?_,λp hp1=>?_,λp hp1=>?_,by simp⟩ (by simp [zaa]) (by simp [zaa,hnk]))
  ·exact Below.heap_alloc _ _ _ hq
  ·simp only [List.nil_append,List.mem_singleton] at hp1
   subst hp1
   refine ⟨?_,Blk.flat_ids hf⟩
   rw [Blk.obj_flat hf]
   simp only [za9]
   exact heap_alloc_new W.drew _
  ·simp only [List.mem_singleton] at hp1
   subst hp1
   show W.heap.size<=upd r nk W.heap.size nk
   rw [za9]
   exact Nat.le_refl _
def z8m (P:Program) (o:Oper) (ts:Nat->Value) (hp:Hp) (nk:Nat) (next:(Nat->Value)->Hp->Prop):Prop :=
 ∃ (tx ty:Tmp) (t e:TypeId) (i:TypeInfo) (z:Value) (k j off2 sl cap m m':Nat) (b b2:Blk) (nw:List Value),
  o.op=.call { callee:=.builtin .append,args:=#[.tmp tx,.tmp ty],argTypes:=#[t,t] }/\P.underlying t=some (.slice e)/\P.info? e=some i/\i.zero=some z /\
  ts tx=.slice (some ⟨k,0,none⟩) sl cap/\100<=k/\hp k=some b/\b.T=.ty e/\(∀ x∈b.c,zbf x=true) /\
  ts ty=.slice (some ⟨j,off2,none⟩) m m'/\hp j=some b2/\b2.T.rd=true/\nw.length=m*i.size/\(∀ q u,nw[q]? = some u->b2.c[off2+q]? = some u)/\(∀ x∈nw,zbf x=true)/\(∀ u∈nw,u.oneCell'=true)/\(∀ c,∀ x∈Builtin.zeroCells z.cells c,zbf x=true) /\
  cap*i.size<=b.c.size/\sl<=cap/\sl+m<=maxLen/\(sl+m)*i.bytes<=140737488355328 /\
  (sl+m<=cap->next (zcx ts o.dst (.slice (some ⟨k,0,none⟩) (sl+m) cap)) (upd hp k (some ⟨(b.c.toList.take (sl*i.size)++nw++b.c.toList.drop (sl*i.size+nw.length)).toArray,e⟩))) /\
  (cap<sl+m->∀ cap',sl+m<=cap'->next (zcx ts o.dst (.slice (some ⟨nk,0,none⟩) (sl+m) cap')) (upd hp nk (some ⟨(b.c.toList.take (sl*i.size)).toArray++nw.toArray++Builtin.zeroCells z.cells (cap' - (sl+m)),e⟩)))
theorem zwv {id:Nat} {pre post:List Oper} {o:Oper} (pn:List FuncId) (hg:o.guard=none) (hdst:(zg1 n (pre++o::post)&&zry P (pre++o::post))=true)
  (h:∀ (Q:(Nat->Value)->Hp->Tr->Nat->Prop) (Qp:Value->Tr->Prop),(∀ ts hp tr yc,K .normal ⟨ts,hp,s.B+8*(pre.length+1+post.length),yc⟩->Q ts hp tr yc) ->
   zi5 P C.G ⟨C.Y,pn,false⟩ (pre++o::post).toArray s.B (λts hp _ yc=>z8m P o ts hp (s.B+8*pre.length) λts' hp'=>zi5 P C.G ⟨C.Y,pn,false⟩ (pre++o::post).toArray s.B Q (λ_ _=>False) (pre.length+1) post ts' hp' [] yc true false)
    (λ_ _=>False) 0 pre s.ts s.hp [] s.yc false false):GW P C n d ro (.region id (pre++o::post).toArray false) s K:=by
 intro r a W hi
 simp only [Bool.and_eq_true] at hdst
 replace h:=h (λts hp _ yc=>K .normal ⟨ts,hp,s.B+8*(pre.length+1+post.length),yc⟩) (λ_ _=>False) (λ_ _ _ _ a=>a)
 have ok:∀ q∈pre++o::post,(((∀ dd,q.dst=some dd->dd<n)/\∀ c,q.op≠.defer c)/\unC P q)/\q∈pre++o::post:=λq hq=>⟨⟨ze6 hdst.1 hq,zge hdst.2 q hq⟩,hq⟩
 refine wpIn_region_lit ?_
 refine zfd (o::post) (ops:=(pre++o::post).toArray) (base:=s.B) (pn:=pn) (Kn:=λts hp yc=>z8m P o ts hp (s.B+8*pre.length) λts' hp'=>zi5 P C.G ⟨C.Y,pn,false⟩ (pre++o::post).toArray s.B (λts hp _ yc=>K .normal ⟨ts,hp,s.B+8*(pre.length+1+post.length),yc⟩) (λ_ _=>False) (pre.length+1) post ts' hp' [] yc true false)
  (Kp:=λ_=>False) (hp0:=s.hp) (ts0:=s.ts) (l0:=pre++o::post) hi.flat hi.rounds hi.low pre 0 s.ts s.hp [] s.yc false false r a W (λq hq=>ok q (List.mem_append_left _ hq)) (λ_ _=>rfl) hi.ri (by simpa using hi.free) (λ_ _ _ h=>h) ?_ (λ_ _ _ _ _ _ _ h=>h.elim) ?_
 ·intro ts hp yc r' a' W' hk hi' hf hts
  obtain ⟨tx,ty,t,e,i,z,k,j,off2,sl,cap,m,m',b,b2,nw,ho,ht,hii,hz,hx,hk1,hb,hbT,hbf,hy,hb2,hrd,hnl,hnw,hb2f,h1,hzf,hc,hsl,hs1,hs2,hroom,hgrow⟩:=hk
  have hok:=ok o (by simp)
  have tail:∀ (ts':Nat->Value) (hp':Hp) r'' a'' W'',RI C n d r'' ts' hp' yc a'' W''->(∀ x,s.B+8*(pre.length+1)<=x->hp' x=none)->(∀ q,(∀ o'∈pre++o::post,o'.dst≠some q)->ts' q=s.ts q) ->
    zi5 P C.G ⟨C.Y,pn,false⟩ (pre++o::post).toArray s.B (λts hp _ yc=>K .normal ⟨ts,hp,s.B+8*(pre.length+1+post.length),yc⟩) (λ_ _=>False) (pre.length+1) post ts' hp' [] yc true false ->
    wpListIn (Fw P ro) 0 P (pre++o::post).toArray (λe a' W'=>∃ s' r',K e s'/\GI P C n d r' s' a' W') post a'' W'':=λts' hp' r'' a'' W'' hi'' hf'' hts'' hl=>by
   have:=zfd (ro:=ro) [] (ops:=(pre++o::post).toArray) (base:=s.B) (pn:=pn) (Q:=λe a' W'=>∃ s' r',K e s'/\GI P C n d r' s' a' W') (Kn:=λts hp yc=>K .normal ⟨ts,hp,s.B+8*(pre.length+1+post.length),yc⟩) (Kp:=λ_=>False) (hp0:=s.hp) (ts0:=s.ts) (l0:=pre++o::post) hi.flat hi.rounds hi.low post (pre.length+1) ts' hp' [] yc true false r'' a'' W''
    (λq hq=>ok q (by simp [hq])) hts'' hi'' hf'' (by simp) (λts hp yc r a W hk hi3 hf3 _=>wpListIn_nil ⟨⟨ts,hp,_,yc⟩,r,hk,hi3,hf3,by have:=hi.low;simp only;omega,hi.flat,hi.rounds⟩) (λ_ _ _ _ _ _ _ h=>h.elim) hl
   simpa using this
  refine wpListIn_plain hg λK' hK'=>?_
  have hf0:∀ x,s.B+8*pre.length<=x->hp x=none:=by simpa using hf
  refine zkx hi' hok.1.1.1 ho ht hii hz hx hk1 hb hbT hbf hy hb2 hrd hnl hnw hb2f h1 hzf hc hsl hs1 hs2 (nk:=s.B+8*pre.length) ⟨hf0 _ (Nat.le_refl _),by have:=hi.low;omega⟩ (λhr r'' a'' W'' hi''=>hK' _ _ (tail _ _ r'' a'' W'' hi'' (λx hx'=>?_) (λq hq=>(zd1 (hq o (by simp))).trans (hts q hq)) (hroom hr))) (λhr cap' hc' r'' a'' W'' hi''=>hK' _ _ (tail _ _ r'' a'' W'' hi'' (λx hx'=>?_) (λq hq=>(zd1 (hq o (by simp))).trans (hts q hq)) (hgrow hr cap' hc')))
  ·rw [zab _ _ (λe=>?_)]
   ·exact hf0 x (by omega)
   ·subst e;rw [hf0 x (by omega)] at hb;cases hb
  ·rw [zab _ _ (λe=>by omega)]
   exact hf0 x (by omega)
 ·exact h
end

theorem zpp (r ρ:Nat->Nat) (v:Value):zan r (zan ρ v)=zan (λk=>r (ρ k)) v:=by
 cases v with
 | pointer p=>cases p<;>rfl
 | slice p _ _=>cases p<;>rfl
 | map p=>cases p<;>rfl
 | _=>rfl
theorem zf9 (r ρ:Nat->Nat) (v:Value):zak r (zak ρ v)=zak (λk=>r (ρ k)) v:=by
 cases v with
 | func f a b=>simp only [zak,Array.map_map];congr 1<;>(congr 1;funext x;exact zpp r ρ x)
 | iface t v=>simp only [zak,zpp]
 | pointer p=>cases p<;>rfl
 | slice p _ _=>cases p<;>rfl
 | map p=>cases p<;>rfl
 | _=>rfl
theorem zh1 (r ρ:Nat->Nat) (v:Value):zay r (zay ρ v)=zay (λk=>r (ρ k)) v:=by
 cases v with
 | agg cs=>simp only [zay,Array.map_map];congr 2;funext x;exact zf9 r ρ x
 | func f a b=>exact zf9 r ρ (.func f a b)
 | iface t v=>exact zf9 r ρ (.iface t v)
 | pointer p=>cases p<;>rfl
 | slice p _ _=>cases p<;>rfl
 | map p=>cases p<;>rfl
 | _=>rfl
theorem zcn (r ρ:Nat->Nat) (v:Value):ren r (ren ρ v)=ren (λk=>r (ρ k)) v:=by
 cases v with
 | tuple vs=>simp only [ren,Array.map_map];congr 2;funext x;exact zh1 r ρ x
 | agg cs=>exact zh1 r ρ (.agg cs)
 | func f a b=>exact zh1 r ρ (.func f a b)
 | iface t v=>exact zh1 r ρ (.iface t v)
 | pointer p=>cases p<;>rfl
 | slice p _ _=>cases p<;>rfl
 | map p=>cases p<;>rfl
 | _=>rfl

section
variable {P:Program} {G:Hp}

theorem zth {f:FuncId} {fn:Func} {c:Code} {args:Array Value} {hp:Hp} {rs:List Nat} {v:Value} {ns:List (Nat×Blk)} {B:Nat} (ρ:Nat->Nat) (hGF:zbo G) (hG:∀ k,k<100->hp k=G k) (hf:P.funcs[f]? = some fn) (hb:fn.body=some c) (hcall:∀ a w,(callFunc f a).run P w=.ok (.enter f a) w)
  (ha:∀ x∈args,zap (dom (rst hp rs)) x) (hcl:∀ k b,rst hp rs k=some b->b.ids (dom (rst hp rs))) (hfit:(Res.new v ns).fits hp rs) (hn:args.size<=fn.ntmps) (hB:100<=B) (hfree:∀ x,B<=x->rst hp rs x=none)
  (hρ0:∀ k,dom (rst hp rs) k->ρ k=k) (hρ:∀ p∈ns,¬dom (rst hp rs) (ρ p.1)/\100<=ρ p.1) (hinj:∀ p∈ns,∀ q∈ns,ρ p.1=ρ q.1->p.1=q.1) (hbl:∀ p∈ns,p.2.ids (dom (rst hp rs)))
  (h:∀ C:Ctx,C.G=G->C.hp0=rst hp rs->C.Y=none->GW P C fn.ntmps [] none c ⟨λt=>args.getD t undef,rst hp rs,B,0⟩ λe s=>(e=.normal\/e=.ret)/\zn1 P fn.results.toList s.ts s.hp=some (ren ρ v) /\
   (∀ p∈ns,s.hp (ρ p.1)=some p.2)/\∀ k,dom (rst hp rs) k->s.hp k=rst hp rs k):Fun P G f args hp rs (.new v ns):=by
 refine ⟨hcall,ha,hcl,hfit,λr W hgok hsat hinjr hlow=>callsIn_of_wp_marks hf hb ⟨fn,hf⟩ ?_⟩
 have ltW:∀ k,dom (rst hp rs) k->r k<W.heap.size:=λk hk=>by
  unfold dom at hk
  cases hb:rst hp rs k with
  | none=>exact absurd hb hk
  | some b=>exact (Array.getElem?_eq_some_iff.1 (hsat k b hb).1).1
 let im:Nat->Prop:=λj=>∃ i,dom (rst hp rs) i/\r i=j
 let C:Ctx:=⟨zdt W im,rst hp rs,r,G,none⟩
 have hi:GI P C fn.ntmps [] r ⟨λt=>args.getD t undef,rst hp rs,B,0⟩ { tmps:=args.map (ren r)++Array.replicate (fn.ntmps - (args.map (ren r)).size) undef,defers:=[] } W:=by
  refine ⟨⟨by simp;omega,λt=>?_,hsat,hinjr,⟨λk=>k<W.heap.size/\¬im k,[],⟨λ_=>Iff.rfl,rfl,rfl,rfl,Nat.le_refl _,λ_ _=>rfl⟩,λk hk=>hk.1,λi hi _ hS=>hS.2 ⟨i,hi,rfl⟩,⟨rfl,List.nodup_nil⟩,by simp⟩,
   λi hi=>⟨hi,rfl⟩,λk hk=>?_,hlow⟩,hfree,hB,hGF,λy hy=>by cases hy⟩
  ·right
   dsimp only
   by_cases ht:t<args.size
   ·have hm:args[t]∈args:=Array.getElem_mem ht
    have e:args.getD t undef=args[t]:=by simp [Array.getD,ht]
    rw [e]
    refine ⟨?_,ha _ hm⟩
    have:t<(args.map (ren r)).size:=by simpa using ht
    simp [Array.getElem?_append_left this,ht]
   ·have e:args.getD t undef=undef:=by simp [Array.getElem?_eq_none (Nat.le_of_not_lt ht)]
    rw [e]
    refine ⟨?_,zcv _⟩
    rw [zci]
    simp only [Array.getD_eq_getD_getElem?]
    rw [Array.getElem?_append_right (by simpa using Nat.le_of_not_lt ht),Array.getElem?_replicate]
    split<;>rfl
  ·show rst hp rs k=G k
   simp [rst,hk,hG k hk]
 refine wpIn_mono (h C rfl rfl rfl r _ W hi) ?_
 rintro e a' W' ⟨s',r',⟨he,hr,hns,hhp⟩,hi'⟩
 obtain ⟨S,ms,⟨hS,os,tape,output,size,hsame⟩,hS1,hS2,⟨hdef,hnd⟩,hms⟩:=hi'.ri.ext
 have hkeep:∀ i,dom (rst hp rs) i->dom s'.hp i/\r' i=r i:=hi'.ri.keep
 have mine:∀ W'':World,(∀ k,k∉ms->W''.heap[k]? = W'.heap[k]?)->∀ i b,s'.hp i=some b->W''.heap[r' i]? = some (b.obj r'):=λW'' hW i b hb=>by
  rw [hW _ (λhm=>hi'.ri.ne_mark (by unfold dom;rw [hb];simp) (hms _ hm).1 rfl)]
  exact (hi'.ri.sat i b hb).1
 have hend:∀ W'':World,W''.heap.size=W'.heap.size->W''.os=W'.os->W''.tape=W'.tape->W''.output=W'.output->(∀ k,k∉ms->W''.heap[k]? = W'.heap[k]?) ->
   LeavesIn (Fw P none) 0 P fn a'.tmps ((Res.new v ns).holds r (dom (rst hp rs)) W) [] .returning W'':=λW'' e1 e2 e3 e4 e5=>by
  have hsat':Sat r' (dom s'.hp) s'.hp W'':=λk b hk=>⟨mine W'' e5 k b hk,(hi'.ri.sat k b hk).2⟩
  have hrun:=zdn (fn:=fn) hi'.ri.rel hsat' hr
  rw [zcn] at hrun
  refine ⟨_,hrun,λ_=>⟨λk=>r' (ρ k),λk hk=>?_,rfl,?_⟩⟩
  ·simp only [hρ0 k hk];exact (hkeep k hk).2
  ·have hag:∀ k,dom (rst hp rs) k->r' (ρ k)=r' k:=λk hk=>by rw [hρ0 k hk]
   refine ⟨e2.trans os,e3.trans tape,e4.trans output,by rw [e1];exact size,λk hk _=>?_,λp hp1=>?_,λp hp1=>?_,λp hp1 q hq1 hpq=>?_⟩
   ·by_cases hk':im k
    ·obtain ⟨i,hi1,rfl⟩:=hk'
     cases hb:rst hp rs i with
     | none=>exact absurd hb hi1
     | some b =>
      have e:s'.hp i=some b:=(hhp i hi1).trans hb
      have:=mine W'' e5 i b e
      rw [(hkeep i hi1).2,Blk.obj_congr (λk hk=>(hkeep k hk).2) (hcl i b hb)] at this
      rw [this,(hsat i b hb).1]
    ·have hSk:S k:=(hS k).2 ⟨hk,hk'⟩
     rw [e5 k (λhm=>(hms k hm).2.1 hSk)]
     exact hsame k hSk
   ·have hp1:p∈ns:=by simpa using hp1
    refine ⟨?_,Blk.ids_mono (λk hk=>.inl hk) (hbl p hp1)⟩
    have:=mine W'' e5 _ _ (hns p hp1)
    rw [Blk.obj_congr (r:=r') hag (hbl p hp1)]
    exact this
   ·have hd:dom s'.hp (ρ p.1):=by unfold dom;rw [hns p hp1];simp
    have h1:=hS2 _ hd (hρ p hp1).2
    rw [hS] at h1
    refine Classical.byContradiction λhlt=>h1 ⟨by omega,λ⟨i,hi1,e⟩=>?_⟩
    have:=hi'.ri.inj i (ρ p.1) (hkeep i hi1).1 hd ((hkeep i hi1).2.trans e)
    exact (hρ p hp1).1 (this▸hi1)
   ·have hd:∀ x∈ns,dom s'.hp (ρ x.1):=λx hx=>by unfold dom;rw [hns x hx];simp
    exact hinj p hp1 q hq1 (hi'.ri.inj _ _ (hd p hp1) (hd q hq1) hpq)
 rcases he with rfl|rfl
 ·show LeavesInM _ _ _ _ _ _ a'.defers _ _
  rw [hdef,List.append_nil]
  exact zc9 (by simp) ms W' hnd (λD hD=>(hms D hD).1) hend
 ·show LeavesInM _ _ _ _ _ _ a'.defers _ _
  rw [hdef,List.append_nil]
  exact zc9 (by simp) ms W' hnd (λD hD=>(hms D hD).1) hend

def Blk.rn (ρ:Nat->Nat) (b:Blk):Blk:=match b.T with
 | .ty t=>⟨b.c.map (zak ρ),.ty t⟩
 | .raw _ _=>b
 | .mp=>⟨b.c.map (zak ρ),.mp⟩
theorem Blk.rn_obj (r ρ:Nat->Nat) (b:Blk):(b.rn ρ).obj r=b.obj (λk=>r (ρ k)):=by
 obtain ⟨c,T⟩:=b
 cases T with
 | raw t fr=>rfl
 | ty t =>
  simp only [Blk.rn,Blk.obj,Array.map_map]
  congr 2
  funext x
  exact zf9 r ρ x
 | mp =>
  simp only [Blk.rn,Blk.obj,Array.map_map]
  congr 2
  funext x
  exact zf9 r ρ x
theorem Blk.rn_flat {ρ:Nat->Nat} {b:Blk} (h:∀ x∈b.c,zbf x=true):b.rn ρ=b:=by
 obtain ⟨c,T⟩:=b
 cases T with
 | raw t fr=>rfl
 | ty t=>simp only [Blk.rn];rw [zbs (λx hx=>zb9 (h x hx))]
 | mp=>simp only [Blk.rn];rw [zbs (λx hx=>zb9 (h x hx))]
theorem zin {ρ:Nat->Nat} {D D':Nat->Prop} (h:∀ k,D k->D' (ρ k)) {v:Value} (hv:zaj D v):zaj D' (zan ρ v):=by
 cases v with
 | pointer p=>cases p<;>first|exact h _ hv|trivial
 | slice p _ _=>cases p<;>first|exact h _ hv|trivial
 | map p=>cases p<;>first|exact h _ hv|trivial
 | _=>trivial
theorem zkh {ρ:Nat->Nat} {D D':Nat->Prop} (h:∀ k,D k->D' (ρ k)) {v:Value} (hv:zah D v):zah D' (zak ρ v):=by
 cases v with
 | func f a b =>
  refine ⟨λx hx=>?_,λx hx=>?_⟩
  ·obtain ⟨y,hy,rfl⟩:=Array.mem_map.1 hx;exact zin h (hv.1 y hy)
  ·obtain ⟨y,hy,rfl⟩:=Array.mem_map.1 hx;exact zin h (hv.2 y hy)
 | iface t v=>exact zin (v:=v) h hv
 | pointer p=>cases p<;>first|exact h _ hv|trivial
 | slice p _ _=>cases p<;>first|exact h _ hv|trivial
 | map p=>cases p<;>first|exact h _ hv|trivial
 | _=>trivial
theorem Blk.ids_rn {ρ:Nat->Nat} {D D':Nat->Prop} (h:∀ k,D k->D' (ρ k)) {b:Blk} (hb:b.ids D):(b.rn ρ).ids D':=by
 obtain ⟨c,T⟩:=b
 cases T with
 | raw t fr=>trivial
 | ty t =>
  intro x hx
  obtain ⟨y,hy,rfl⟩:=Array.mem_map.1 hx
  exact zkh h (hb y hy)
 | mp =>
  intro x hx
  obtain ⟨y,hy,rfl⟩:=Array.mem_map.1 hx
  exact zkh h (hb y hy)
structure Rn (ρ:Nat->Nat) (hp hp':Hp) (rs:List Nat):Prop where
 low:∀ k,k<100->ρ k=k/\hp' k=hp k
 big:∀ k∈rs,100<=k->100<=ρ k
 at':∀ k∈rs,100<=k->∃ b,hp k=some b/\hp' (ρ k)=some (b.rn ρ)
 inj:∀ k∈rs,∀ l∈rs,100<=k->100<=l->ρ k=ρ l->k=l
theorem Rn.dom1 {ρ:Nat->Nat} {hp hp':Hp} {rs:List Nat} (h:Rn ρ hp hp' rs) {k:Nat} (hk:dom (rst hp rs) k):dom (rst hp' (rs.map ρ)) (ρ k):=by
 unfold dom rst at *
 by_cases h1:k<100
 ·have:=h.low k h1
  rw [this.1]
  simp only [h1,true_or,if_true] at hk |-
  rw [this.2];exact hk
 ·have hm:k∈rs:=by
   by_cases hm:k∈rs
   ·exact hm
   ·simp [h1,hm] at hk
  obtain ⟨b,e1,e2⟩:=h.at' k hm (by omega)
  have:ρ k∈rs.map ρ:=List.mem_map.2 ⟨k,hm,rfl⟩
  simp [this,e2]
theorem IterX.rn {pn:Option Value} {f:FuncId} {caps:Array Value} {hp hp':Hp} {rs:List Nat} {xs:List (Array Value)} (ρ:Nat->Nat) (hGF:zbo G) (hG:∀ k,k<100->hp k=G k) (h:Rn ρ hp hp' rs) (hi:IterX pn P G f caps hp rs xs):IterX pn P G f (caps.map (zan ρ)) hp' (rs.map ρ) xs:=by
 have hpl:∀ x,zbr x=true->zbr (zan ρ x)=true:=λx hx=>by
  cases x with
  | pointer p=>cases p<;>rfl
  | slice p _ _=>cases p<;>rfl
  | map p=>cases p<;>rfl
  | _=>exact hx
 have bflat:∀ k b,k<100->hp k=some b->b.rn ρ=b:=λk b hk hb=>by
  have hg:G k=some b:=(hG k hk).symm.trans hb
  exact Blk.rn_flat (hGF k b hg).2
 have back:∀ k b,rst hp' (rs.map ρ) k=some b->∃ q c,rst hp rs q=some c/\ρ q=k/\b=c.rn ρ:=λk b hb=>by
  unfold rst at hb
  by_cases h1:k<100
  ·simp only [h1,true_or,if_true] at hb
   have hl:=h.low k h1
   rw [hl.2] at hb
   exact ⟨k,b,by simp [rst,h1,hb],hl.1,(bflat k b h1 hb).symm⟩
  ·by_cases hm:k∈rs.map ρ
   ·obtain ⟨q,hq,rfl⟩:=List.mem_map.1 hm
    simp only [hm,or_true,if_true] at hb
    have hq1:100<=q:=by
     by_cases hq1:100<=q
     ·exact hq1
     ·exact absurd (by rw [(h.low q (by omega)).1];omega) h1
    obtain ⟨c,e1,e2⟩:=h.at' q hq hq1
    rw [e2] at hb;cases hb
    exact ⟨q,c,by simp [rst,hq,e1],rfl,rfl⟩
   ·simp [h1,hm] at hb
 refine ⟨hi.enter,λx hx=>?_,λk b hb=>?_,λE l stop r S W hgok hsat hinj hlow hlen hR hX hS hdis=>?_⟩
 ·obtain ⟨y,hy,rfl⟩:=Array.mem_map.1 hx
  have:=hi.cids y hy
  exact ⟨hpl y this.1,(zb1 (hpl y this.1)).2 (zin (λk hk=>h.dom1 hk) ((zb1 this.1).1 this.2))⟩
 ·obtain ⟨q,c,h1,rfl,rfl⟩:=back k b hb
  exact Blk.ids_rn (λk hk=>h.dom1 hk) (hi.closed q c h1)
 ·have hcap:(caps.map (zan ρ)).map (ren r)=caps.map (ren λk=>r (ρ k)):=by
   rw [Array.map_map]
   refine Array.map_congr_left λx hx=>?_
   have:=(hi.cids x hx).1
   simp only [Function.comp]
   rw [<-zcf (r:=ρ) this,zcn]
  rw [hcap]
  refine hi.run E l stop (λk=>r (ρ k)) S W hgok (λk b hk=>⟨?_,hi.closed k b hk⟩) (λk l hk hl e=>?_) (λk hk hd=>?_) hlen hR hX hS (λi hd h1=>?_)
  ·have hd:dom (rst hp rs) k:=by unfold dom;rw [hk];simp
   have hd':=h.dom1 hd
   unfold dom at hd'
   cases hb:rst hp' (rs.map ρ) (ρ k) with
   | none=>exact absurd hb hd'
   | some b' =>
    have e:b'=b.rn ρ:=by
     unfold rst at hb hk
     by_cases h1:k<100
     ·have hl:=h.low k h1
      simp only [h1,true_or,if_true] at hk
      rw [hl.1] at hb
      simp only [h1,true_or,if_true] at hb
      rw [hl.2,hk] at hb
      cases hb
      exact (bflat k b h1 hk).symm
     ·have hm:k∈rs:=by
       by_cases hm:k∈rs
       ·exact hm
       ·simp [h1,hm] at hk
      simp only [hm,or_true,if_true] at hk
      obtain ⟨c,e1,e2⟩:=h.at' k hm (by omega)
      rw [hk] at e1;cases e1
      have hm':ρ k∈rs.map ρ:=List.mem_map.2 ⟨k,hm,rfl⟩
      simp only [hm',or_true,if_true] at hb
      rw [e2] at hb;cases hb;rfl
    have:=(hsat _ b' hb).1
    rw [e,Blk.rn_obj] at this
    exact this
  ·have e2:=hinj _ _ (h.dom1 hk) (h.dom1 hl) e
   have mem:∀ k,dom (rst hp rs) k->100<=k->k∈rs:=λk hk h1=>by
    unfold dom rst at hk
    by_cases hm:k∈rs
    ·exact hm
    ·simp [hm] at hk;omega
   by_cases h1:k<100
   ·by_cases h2:l<100
    ·rw [(h.low k h1).1,(h.low l h2).1] at e2;exact e2
    ·have:=h.big l (mem l hl (by omega)) (by omega)
     rw [(h.low k h1).1] at e2;omega
   ·by_cases h2:l<100
    ·have:=h.big k (mem k hk (by omega)) (by omega)
     rw [(h.low l h2).1] at e2;omega
    ·exact h.inj k (mem k hk (by omega)) l (mem l hl (by omega)) (by omega) (by omega) e2
  ·show r (ρ k)=k
   have:=h.dom1 hd
   rw [(h.low k hk).1] at this |-
   exact hlow k hk this
  ·refine hdis _ (h.dom1 hd) (h.big i ?_ h1)
   unfold dom rst at hd
   by_cases hm:i∈rs
   ·exact hm
   ·simp [hm] at hd;omega
end
section
variable {P:Program} {C:Ctx} {n:Nat} {d:List Deferred} {ro:Option Nat} {s:GS} {K:Exit->GS->Prop}
structure WeakR (C:Ctx) (ρ:Nat->Nat) (s s':GS):Prop where
 ts:∀ t,s'.ts t=zcm\/(s.ts t=ren ρ (s'.ts t)/\s.ts t≠zcm/\zap (dom s'.hp) (s'.ts t))
 hp:∀ k b,s'.hp k=some b->100<=k->s.hp (ρ k)=some (b.rn ρ)/\100<=ρ k
 ids:∀ k b,s'.hp k=some b->b.ids (dom s'.hp)
 inj:∀ k l,dom s'.hp k->dom s'.hp l->ρ k=ρ l->k=l
 id:∀ k,k<100->ρ k=k
 rest:∀ k b,k<100->C.G k=some b->b.rn ρ=b
 keep:∀ k,100<=k->dom C.hp0 k->dom s'.hp k/\ρ k=k
 glob:∀ k,k<100->s'.hp k=C.G k
 yc:s'.yc=s.yc
 free:∀ x,s'.B<=x->s'.hp x=none
 low:100<=s'.B
theorem GI.rename {ρ:Nat->Nat} {r:Nat->Nat} {a:Act} {W:World} {s':GS} (h:GI P C n d r s a W) (hw:WeakR C ρ s s'):GI P C n d (λk=>r (ρ k)) s' a W:=by
 have sub:∀ k b,s'.hp k=some b->s.hp (ρ k)=some (b.rn ρ):=λk b hb=>by
  by_cases hk:100<=k
  ·exact (hw.hp k b hb hk).1
  ·have hg:C.G k=some b:=(hw.glob k (by omega)).symm.trans hb
   rw [hw.id k (by omega),hw.rest k b (by omega) hg,h.ri.glob k (by omega)]
   exact hg
 have subd:∀ k,dom s'.hp k->dom s.hp (ρ k):=λk hk=>by
  unfold dom at hk
  cases hb:s'.hp k with
  | none=>exact absurd hb hk
  | some b=>unfold dom;rw [sub k b hb];simp
 refine ⟨{ h.ri with rel:=λt=>?_,sat:=λk b hb=>?_,inj:=λk l hk hl e=>hw.inj k l hk hl (h.ri.inj _ _ (subd k hk) (subd l hl) e),ext:=?_,keep:=λi hi=>?_,glob:=hw.glob,low:=λk hk hd=>?_ },hw.free,hw.low,h.flat,h.rounds⟩
 ·rcases hw.ts t with e|⟨e,hne,hi⟩
  ·exact .inl e
  ·have e':=(h.ri.rel t).resolve_left hne
   refine .inr ⟨?_,hi⟩
   rw [e'.1,e,zcn]
 ·have hs:=(h.ri.sat _ _ (sub k b hb)).1
  rw [Blk.rn_obj] at hs
  exact ⟨hs,hw.ids k b hb⟩
 ·obtain ⟨S,ms,h1,h2,h3,h4⟩:=h.ri.ext
  refine ⟨S,ms,by rw [hw.yc];exact h1,h2,λi hi hi1=>?_,h4⟩
  refine h3 _ (subd i hi) ?_
  unfold dom at hi
  cases hb:s'.hp i with
  | none=>exact absurd hb hi
  | some b=>exact (hw.hp i b hb hi1).2
 ·have hk:=h.ri.keep i hi
  by_cases h1:100<=i
  ·have hh:=hw.keep i h1 hi
   exact ⟨hh.1,by rw [hh.2];exact hk.2⟩
  ·refine ⟨?_,by rw [hw.id i (by omega)];exact hk.2⟩
   unfold dom;rw [hw.glob i (by omega),<-h.ri.glob i (by omega)];exact hk.1
 ·have hd':=subd k hd
  rw [hw.id k hk] at hd' |-
  exact h.ri.low k hk hd'
theorem zjj {c:Code} (I:Nat->GS->Prop) {m0:Nat} {s0:GS} (hw:Weak C s s0) (h0:I m0 s0)
  (round:∀ m s,I m s->GW P C n d ro c s (zbx (λs'=>∃ ρ s'' m',WeakR C ρ s' s''/\I m' s''/\m'<m) K)):GW P C n d ro (.loop c) s K:=by
 have key:∀ (m:Nat) (s:GS),I m s->∀ r a W,GI P C n d r s a W->∀ (b:Frame) (k:List Item) (cs:List Frame),b.roundOf=ro ->
   (Fs P).fn b.fn->∃ e a' w',(∃ s' r',K e s'/\GI P C n d r' s' a' w')/\ArrivesIn (Machine.fenced P (Fw P ro)) P (lone (b.atR a (.code c::.inLoop c::k)) cs W) b k cs e a' w':=by
  intro m
  induction m using Nat.strongRecOn with
  | _ m ih =>
   intro s hI r a W hi b k cs hro hfn
   obtain ⟨e,a₁,w₁,⟨s',r',hk,hi'⟩,harr⟩:=round m s hI r a W hi b (.inLoop c::k) cs hro hfn (zd4 P _)
   cases e with
   | normal =>
    obtain ⟨ρ,s'',m',hw'',hI'',hlt⟩:=hk
    obtain ⟨e₂,a₂,w₂,hq₂,harr₂⟩:=ih m' hlt s'' hI'' _ a₁ w₁ (hi'.rename hw'') b k cs hro hfn
    exact ⟨e₂,a₂,w₂,hq₂,.of_steps (StepsIn.trans harr (.one (fenced_calm (F:=Fw P ro) (n:=0) hfn (zd4 P _) rfl) stepR_inLoop)) harr₂⟩
   | exit id=>exact ⟨_,a₁,w₁,⟨s',r',hk,hi'⟩,.pass (x:=.inLoop c) rfl (λ_ _=>.inl (by simp)) harr⟩
   | goto l=>exact ⟨_,a₁,w₁,⟨s',r',hk,hi'⟩,.pass (x:=.inLoop c) rfl (λ_ _=>.inl (by simp)) harr⟩
   | ret=>exact ⟨_,a₁,w₁,⟨s',r',hk,hi'⟩,.pass (x:=.inLoop c) rfl (λ_ _=>.inl (by simp)) harr⟩
   | panic ch=>exact ⟨_,a₁,w₁,⟨s',r',hk,hi'⟩,.pass (x:=.inLoop c) rfl (λ_ _=>.inl (by simp)) harr⟩
   | outgrown=>exact ⟨_,a₁,w₁,⟨s',r',hk,hi'⟩,.pass (x:=.inLoop c) rfl (λ_ _=>.inl (by simp)) harr⟩
 intro r a W hi
 intro b k cs hro hb hr
 obtain ⟨e,a',w',hq,harr⟩:=key m0 s0 h0 r a W (hi.weak hw) b k cs hro hb
 exact ⟨e,a',w',hq,.of_steps (.one (fenced_calm hb hr rfl) stepR_loop) harr⟩
end
section
variable {P:Program} {C:Ctx} {n:Nat} {d:List Deferred} {ro:Option Nat} {s:GS} {K:Exit->GS->Prop}
def ja4 (J:GS->Prop) (e:Exit) (s:GS):Prop:=e=.normal/\J s
theorem z8e {c:Code} {id:Nat} (J:GS->Prop) (h:GW P C n d ro c s (zd9 id (ja4 J))) (k:∀ s',J s'->K .normal s'):GW P C n d ro c s (zd9 id K) :=
 zcb h λe s' hs=>by
  cases e with
  | exit i =>
   simp only [zd9] at hs |-
   split at hs
   ·rename_i hi;rw [if_pos hi];exact k s' hs.2
   ·cases hs.1
  | normal=>exact k s' hs.2
  | _=>cases hs.1
@[simp] theorem zi8 (J:GS->Prop) (s:GS):ja4 J .normal s=J s:=by simp [ja4]
def zi0 (P:Program) (T:TypeId):Option Nat:=(P.info? T).map (·.bytes)
theorem z18 {o:Oper} {ts:Nat->Value} {hp:Hp} {nk:Nat} {next:(Nat->Value)->Hp->Prop} {tx ty:Tmp} {t e:TypeId} {sz by':Nat} {z:Value} {k j off2 sl cap m m':Nat} {c nw:List Value} {b2:Blk}
  (ho:o.op=.call { callee:=.builtin .append,args:=#[.tmp tx,.tmp ty],argTypes:=#[t,t] }) (ht:P.underlying t=some (.slice e)) (hs:zaz P e=some sz) (hz:zbm P e=some z) (hby:zi0 P e=some by')
  (hx:ts tx=.slice (some ⟨k,0,none⟩) sl cap) (hk:100<=k) (hb:hp k=some ⟨c.toArray,.ty e⟩) (hbf:∀ x∈c,zbf x=true)
  (hy:ts ty=.slice (some ⟨j,off2,none⟩) m m') (hb2:hp j=some b2) (hnw:∀ q u,nw[q]? = some u->b2.c[off2+q]? = some u) (hb2f:∀ x∈nw,zbf x=true) (h1:∀ u∈nw,u.oneCell'=true) (hzf:∀ q,∀ x∈Builtin.zeroCells z.cells q,zbf x=true)
  (hm:m*sz=nw.length) (hc:cap*sz<=c.length) (hsl:sl<=cap) (hs1:sl+m<=maxLen) (hs2:(sl+m)*by'<=140737488355328)
  (room:sl+m<=cap->next (zcx ts o.dst (.slice (some ⟨k,0,none⟩) (sl+m) cap)) (upd hp k (some ⟨(c.take (sl*sz)++nw++c.drop (sl*sz+nw.length)).toArray,.ty e⟩)))
  (grow:cap<sl+m->∀ cap',sl+m<=cap'->next (zcx ts o.dst (.slice (some ⟨nk,0,none⟩) (sl+m) cap')) (upd hp nk (some ⟨(c.take (sl*sz)++nw++(Builtin.zeroCells z.cells (cap' - (sl+m))).toList).toArray,.ty e⟩))) (hrd:b2.T.rd=true:=by first|rfl|assumption):z8m P o ts hp nk next:=by
 unfold zaz at hs;unfold zbm at hz;unfold zi0 at hby
 cases hi:P.info? e with
 | none=>rw [hi] at hs;cases hs
 | some i =>
  rw [hi] at hs hz hby
  simp only [Option.map_some,Option.some.injEq,Option.bind_some] at hs hz hby
  subst hs;subst hby
  refine ⟨tx,ty,t,e,i,z,k,j,off2,sl,cap,m,m',_,_,nw,ho,ht,hi,hz,hx,hk,hb,rfl,by simpa using hbf,hy,hb2,hrd,hm.symm,hnw,hb2f,h1,hzf,?_,hsl,hs1,hs2,λhr=>?_,λhr cap' hc'=>?_⟩
  ·simpa using hc
  ·have:=room hr
   exact this
  ·have:=grow hr cap' hc'
   rw [show ((c.take (sl*i.size)).toArray++nw.toArray++Builtin.zeroCells z.cells (cap' - (sl+m)))=(c.take (sl*i.size)++nw++(Builtin.zeroCells z.cells (cap' - (sl+m))).toList).toArray by
    rw [<-List.append_toArray,<-List.append_toArray,Array.toArray_toList]]
   exact this
theorem zxg {o:Oper} {ts:Nat->Value} {hp:Hp} {nk:Nat} {next:(Nat->Value)->Hp->Prop} {tx ty:Tmp} {t e:TypeId} {sz by':Nat} {z:Value} {k j sl cap m m':Nat} {c c2:List Value} {T2:BTy}
  (ho:o.op=.call { callee:=.builtin .append,args:=#[.tmp tx,.tmp ty],argTypes:=#[t,t] }) (ht:P.underlying t=some (.slice e)) (hs:zaz P e=some sz) (hz:zbm P e=some z) (hby:zi0 P e=some by')
  (hx:ts tx=.slice (some ⟨k,0,none⟩) sl cap) (hk:100<=k) (hb:hp k=some ⟨c.toArray,.ty e⟩) (hbf:∀ x∈c,zbf x=true)
  (hy:ts ty=.slice (some ⟨j,0,none⟩) m m') (hb2:hp j=some ⟨c2.toArray,T2⟩) (hb2f:∀ x∈c2,zbf x=true) (h1:∀ u∈c2,u.oneCell'=true) (hzf:∀ q,∀ x∈Builtin.zeroCells z.cells q,zbf x=true)
  (hm:m*sz=c2.length) (hc:cap*sz<=c.length) (hsl:sl<=cap) (hs1:sl+m<=maxLen) (hs2:(sl+m)*by'<=140737488355328)
  (room:sl+m<=cap->next (zcx ts o.dst (.slice (some ⟨k,0,none⟩) (sl+m) cap)) (upd hp k (some ⟨(c.take (sl*sz)++c2++c.drop (sl*sz+c2.length)).toArray,.ty e⟩)))
  (grow:cap<sl+m->∀ cap',sl+m<=cap'->next (zcx ts o.dst (.slice (some ⟨nk,0,none⟩) (sl+m) cap')) (upd hp nk (some ⟨(c.take (sl*sz)++c2++(Builtin.zeroCells z.cells (cap' - (sl+m))).toList).toArray,.ty e⟩))) (hrd:T2.rd=true:=by first|rfl|assumption):z8m P o ts hp nk next :=
 z18 ho ht hs hz hby hx hk hb hbf hy hb2 (λq u hq=>by simpa using hq) hb2f h1 hzf hm hc hsl hs1 hs2 room grow hrd
theorem zqd {id:Nat} {l:List Oper} {o:Oper} {post:List Oper} (j:Nat) (hl:l.drop j=o::post) (pn:List FuncId) (hg:o.guard=none) (hdst:(zg1 n l&&zry P l)=true)
  (h:∀ (Q:(Nat->Value)->Hp->Tr->Nat->Prop) (Qp:Value->Tr->Prop),(∀ ts hp tr yc,K .normal ⟨ts,hp,s.B+8*l.length,yc⟩->Q ts hp tr yc) ->
   zi5 P C.G ⟨C.Y,pn,false⟩ l.toArray s.B (λts hp _ yc=>z8m P o ts hp (s.B+8*(l.take j).length) λts' hp'=>zi5 P C.G ⟨C.Y,pn,false⟩ l.toArray s.B Q (λ_ _=>False) ((l.take j).length+1) post ts' hp' [] yc true false)
    (λ_ _=>False) 0 (l.take j) s.ts s.hp [] s.yc false false):GW P C n d ro (.region id l.toArray false) s K:=by
 have e:l=l.take j++o::post:=by rw [<-hl,List.take_append_drop]
 have el:(l.take j).length+1+post.length=l.length:=by
  conv=>rhs;rw [e]
  simp;omega
 have hdst':(zg1 n (l.take j++o::post)&&zry P (l.take j++o::post))=true:=by rw [<-e];exact hdst
 have:=zwv (P:=P) (C:=C) (n:=n) (d:=d) (ro:=ro) (s:=s) (K:=K) (id:=id) (pre:=l.take j) (post:=post) (o:=o) pn hg hdst' (λQ Qp hQ=>by
  rw [<-e]
  exact h Q Qp λts hp tr yc hk=>hQ ts hp tr yc (by rw [el];exact hk))
 rw [<-e] at this
 exact this
theorem zp4 {G:Hp} {m m0:List (Nat×Blk)} (ρ:Nat->Nat) (l:List (Nat×Value)) (B:Nat) (hG:C.G=G) (hGF:zbo G) (h0:C.hp0=hpL G m0) (hB:100<=B)
  (hl:∀ p∈l,s.ts p.1=ren ρ p.2/\s.ts p.1≠zcm/\zap (dom (hpL G m)) p.2)
  (hm:∀ p∈m,s.hp (ρ p.1)=some (p.2.rn ρ)/\p.2.ids (dom (hpL G m))/\100<=p.1/\p.1<B/\100<=ρ p.1)
  (hi:∀ p∈m,∀ q∈m,ρ p.1=ρ q.1->p.1=q.1) (hid:∀ k,k<100->ρ k=k)
  (hk:∀ p∈m0,100<=p.1/\dom (hpL G m) p.1/\ρ p.1=p.1):WeakR C ρ s ⟨tsL l,hpL G m,B,s.yc⟩ where
 ts t:=by
  rcases zd7 (l:=l) (t:=t) with h|h
  ·exact .inl h
  ·exact .inr (hl _ h)
 hp k b hb h1:=by
  rcases za5 hb with h|h
  ·exact ⟨(hm _ h).1,(hm _ h).2.2.2.2⟩
  ·have:=(hGF k b h).1;omega
 ids k b hb:=by
  rcases za5 hb with h|h
  ·exact (hm _ h).2.1
  ·exact Blk.flat_ids ((hGF k b h).2)
 inj k q hk' hq e:=by
  dsimp only at hk' hq
  unfold dom at hk' hq
  cases hb:hpL G m k with
  | none=>exact absurd hb hk'
  | some b =>
   cases hc:hpL G m q with
   | none=>exact absurd hc hq
   | some c =>
    rcases za5 hb with h|h<;>rcases za5 hc with h'|h'
    ·exact hi _ h _ h' e
    ·have h2:=(hGF q c h').1;rw [hid q h2] at e;have:=(hm _ h).2.2.2.2;simp at this;omega
    ·have h2:=(hGF k b h).1;rw [hid k h2] at e;have:=(hm _ h').2.2.2.2;simp at this;omega
    ·have h2:=(hGF k b h).1;have h3:=(hGF q c h').1;rw [hid k h2,hid q h3] at e;exact e
 id:=hid
 rest k b hlt hb:=by
  rw [hG] at hb
  exact Blk.rn_flat (hGF k b hb).2
 keep k h1k hd:=by
  rw [h0] at hd
  unfold dom at hd
  cases hb:hpL G m0 k with
  | none=>exact absurd hb hd
  | some b =>
   rcases za5 hb with h|h
   ·exact (hk _ h).2
   ·have hlt:=(hGF k b h).1;omega
 glob k hlt:=by rw [hG];exact zbc (λp hp=>(hm p hp).2.2.1) hlt
 yc:=rfl
 free x hx:=by
  dsimp only at hx |-
  cases hb:hpL G m x with
  | none=>rfl
  | some b =>
   rcases za5 hb with h|h
   ·have:=(hm _ h).2.2.2.1;simp at this;omega
   ·have:=(hGF x b h).1;omega
 low:=hB
end
theorem zt5 {z:Array Value} {n:Nat} {x:Value} (h:x∈Builtin.zeroCells z n):x∈z:=by
 simp only [Builtin.zeroCells,Array.mem_map,Array.mem_range] at h
 obtain ⟨w,hw,rfl⟩:=h
 have hz:0<z.size:=Nat.pos_of_ne_zero λe=>by rw [e] at hw;simp at hw
 have hlt:=Nat.mod_lt w hz
 rw [getElem!_pos z _ hlt]
 exact Array.getElem_mem hlt
theorem zsa (z:Array Value) (n:Nat):(Builtin.zeroCells z n).size=n*z.size:=by simp [Builtin.zeroCells]
section
variable {P:Program} {G:Hp} {V:XV}
theorem zc5 {ops:Array Oper} {base:Nat} {Q:QQ}:∀ (l:List Oper) (seen:List (Option Tmp)) (k:Nat) (ts:Nat->Value) (hp:Hp) (tr:Tr) (yc:Nat) (wr yd:Bool),(∀ j,j<k->(seen[k - 1 - j]?).bind id=(ops[j]?).bind (·.dst))->(∀ i,i<l.length->l[i]? = ops[k+i]?) ->
  zhg P G V base Q seen k l ts hp tr yc wr yd->zi5 P G V ops base Q.q Q.p k l ts hp tr yc wr yd
 | [],_,_,_,_,_,_,_,_,_,_,h=>h
 | o::l,seen,k,ts,hp,tr,yc,wr,yd,hs,hl,h=>by
  have ho:ops[k]? = some o:=by have:=hl 0 (by simp);simpa using this.symm
  have hs':∀ j,j<k+1->((o.dst::seen)[k+1 - 1 - j]?).bind id=(ops[j]?).bind (·.dst):=λj hj=>by
   by_cases e:j=k
   ·subst e;simp [ho]
   ·have:k+1 - 1 - j=(k - 1 - j)+1:=by omega
    rw [this,List.getElem?_cons_succ];exact hs j (by omega)
  have hl':∀ i,i<l.length->l[i]? = ops[k+1+i]?:=λi hi=>by
   have:=hl (i+1) (by simp;omega)
   rw [List.getElem?_cons_succ] at this
   rw [this];congr 1;omega
  simp only [zhg] at h
  simp only [zi5]
  cases hw:ze0 seen k o ts with
  | none=>rw [hw] at h;exact h.elim
  | some b =>
   rw [hw] at h
   rw [zme hs hw]
   cases b with
   | true =>
    rw [zk3] at h
    refine znf (λe he=>⟨he.1,?_⟩) h
    have he:=he.2
    cases hpn:e.pan with
    | none=>rw [hpn] at he;exact zc5 l _ _ _ _ _ _ _ _ hs' hl' he
    | some pv=>rw [hpn] at he;exact ⟨λhd=>by simpa using he.1 hd,he.2⟩
   | false=>exact ⟨h.1,zc5 l _ _ _ _ _ _ _ _ hs' hl' h.2⟩
end
section
variable {P:Program} {C:Ctx} {n:Nat} {d:List Deferred} {ro:Option Nat} {s:GS} {K:Exit->GS->Prop}
def ji8 (P:Program) (G:Hp) (V:XV) (base:Nat) (q:(Nat->Value)->Hp->Tr->Nat->Prop) (seen:List (Option Tmp)) (k:Nat) (post:List Oper) (yc:Nat) (ts:Nat->Value) (hp:Hp):Prop :=
 zhg P G V base ⟨q,λ_ _=>False⟩ seen k post ts hp [] yc true false
theorem jed {id:Nat} {l:List Oper} {o:Oper} {post:List Oper} (j:Nat) (hl:l.drop j=o::post) (pn:List FuncId) (hg:o.guard=none) (hdst:(zg1 n l&&zry P l)=true)
  (h:∀ q:(Nat->Value)->Hp->Tr->Nat->Prop,(∀ ts hp tr yc,K .normal ⟨ts,hp,s.B+8*l.length,yc⟩->q ts hp tr yc) ->
   zhg P C.G ⟨C.Y,pn,false⟩ s.B ⟨λts hp _ yc=>z8m P o ts hp (s.B+8*j) (ji8 P C.G ⟨C.Y,pn,false⟩ s.B q ((l.take (j+1)).map (·.dst)).reverse (j+1) post yc),λ_ _=>False⟩ [] 0 (l.take j) s.ts s.hp [] s.yc false false) :
  GW P C n d ro (.region id l.toArray false) s K:=by
 have hj:j<l.length:=by
  refine Classical.byContradiction λhc=>?_
  rw [List.drop_eq_nil_of_le (by omega)] at hl;cases hl
 have ej:(l.take j).length=j:=by simp;omega
 have ej1:(l.take (j+1)).length=j+1:=by simp;omega
 have epost:post=l.drop (j+1):=by
  rw [show l.drop (j+1)=(l.drop j).drop 1 by rw [List.drop_drop],hl];rfl
 refine zqd j hl pn hg hdst λQ Qp hQ=>?_
 rw [ej]
 refine zc5 (Q:=⟨_,_⟩) (l.take j) [] 0 _ _ _ _ _ _ (λj hj=>absurd hj (Nat.not_lt_zero j)) (λi hi=>?_) ?_
 ·rw [ej] at hi
  rw [Nat.zero_add,List.getElem?_take,if_pos hi];simp
 ·have hh:=h Q hQ
  refine (show ∀ q q':(Nat->Value)->Hp->Tr->Nat->Prop,(∀ ts hp tr yc,q ts hp tr yc->q' ts hp tr yc)->zhg P C.G ⟨C.Y,pn,false⟩ s.B ⟨q,λ_ _=>False⟩ [] 0 (l.take j) s.ts s.hp [] s.yc false false->zhg P C.G ⟨C.Y,pn,false⟩ s.B ⟨q',λ_ _=>False⟩ [] 0 (l.take j) s.ts s.hp [] s.yc false false from ?_) _ _ ?_ hh
  ·intro q q' hqq
   have key:∀ (m:List Oper) (seen:List (Option Tmp)) (k:Nat) (ts:Nat->Value) (hp:Hp) (tr:Tr) (yc:Nat) (wr yd:Bool),zhg P C.G ⟨C.Y,pn,false⟩ s.B ⟨q,λ_ _=>False⟩ seen k m ts hp tr yc wr yd->zhg P C.G ⟨C.Y,pn,false⟩ s.B ⟨q',λ_ _=>False⟩ seen k m ts hp tr yc wr yd:=by
    intro m
    induction m with
    | nil=>intro seen k ts hp tr yc wr yd h;exact hqq _ _ _ _ h
    | cons o m ih =>
     intro seen k ts hp tr yc wr yd h
     simp only [zhg] at h |-
     cases hw:ze0 seen k o ts with
     | none=>rw [hw] at h;exact h.elim
     | some b =>
      rw [hw] at h
      cases b with
      | true =>
       rw [zk3] at h |-
       refine znf (λe he=>⟨he.1,?_⟩) h
       have he:=he.2
       cases hpn:e.pan with
       | none=>rw [hpn] at he;exact ih _ _ _ _ _ _ _ _ he
       | some pv=>rw [hpn] at he;exact he
      | false=>exact ⟨h.1,ih _ _ _ _ _ _ _ _ h.2⟩
   exact key _ _ _ _ _ _ _ _ _
  ·intro ts hp _ yc ⟨tx,ty,t,e,i,z,k,j',off2,sl,cap,m,m',b,b2,nw,h1,h2,h3,h4,h5,h6,h7,h8,h9,h10,h11,h12,h13,h14,h15,h16,h17,h18,h19,h20,h21,hroom,hgrow⟩
   have tail:∀ ts' hp',ji8 P C.G ⟨C.Y,pn,false⟩ s.B Q ((l.take (j+1)).map (·.dst)).reverse (j+1) post yc ts' hp'->zi5 P C.G ⟨C.Y,pn,false⟩ l.toArray s.B Q (λ_ _=>False) (j+1) post ts' hp' [] yc true false:=λts' hp' hc=>by
    refine zc5 (Q:=⟨Q,λ_ _=>False⟩) post _ (j+1) _ _ _ _ _ _ (λi hi=>?_) (λi hi=>?_) hc
    ·rw [List.getElem?_reverse (by simp;omega)]
     simp only [List.length_map,ej1,List.getElem?_map,List.getElem?_toArray]
     rw [show j+1 - 1 - (j+1 - 1 - i)=i by omega,List.getElem?_take,if_pos hi]
     cases l[i]?<;>rfl
    ·rw [epost,List.getElem?_drop];simp
   exact ⟨tx,ty,t,e,i,z,k,j',off2,sl,cap,m,m',b,b2,nw,h1,h2,h3,h4,h5,h6,h7,h8,h9,h10,h11,h12,h13,h14,h15,h16,h17,h18,h19,h20,h21,λhr=>tail _ _ (hroom hr),λhr cap' hc'=>tail _ _ (hgrow hr cap' hc')⟩
end
end Go.Gy
