/-
  Lemmas of this claim, in their order (GyV, GyS, GyN, GyP, GyO, GyO2, GyO3, GyL, GyK, GyT, GyK2, GyK3, GyK4, GyQ, GyT2, GyK5).
  Conditions: those of each theorem.
-/
import Derived.Test.YtamodcpmplmaoaaGreatDoorGz01
import Derived.Test.YtamodcpmplmaoaaGreatDoorProg
import Derived.WalkKit
import Derived.ArgAppend
import Derived.RecoverIn
set_option linter.unusedSimpArgs false
set_option linter.unusedVariables false
namespace Go.Gy
open Go Go.RowKit

theorem nr {α:Sort _} {a b:α} (h:a=b):a=b:=h
section
variable {P:Program} {G:Hp} {V:XV} {yc:Nat} {ts:Nat->Value} {hp:Hp} {nk:Nat} {C:Eff->Prop} {dst:Option Tmp} {type:TypeId} {pos:String} {after:Array Edge} {guard:Option (Nat×Bool)}

@[simp] theorem jit (b:Bool):nj (.bool b)=True:=nr rfl
@[simp] theorem jk8 (k:IntKind) (n:Int):nj (.int k n)=True:=nr rfl
@[simp] theorem jcg (s:ByteArray):nj (.string s)=True:=nr rfl
@[simp] theorem z8r (a:Option Addr):nj (.pointer a)=True:=nr rfl
@[simp] theorem jf1 (a:Option Addr) (n c:Nat):nj (.slice a n c)=True:=nr rfl
@[simp] theorem jk9 (a:Option Nat):nj (.map a)=True:=nr rfl
@[simp] theorem jiu (f:Fn) (a b:Array Value):nj (.func f a b)=True:=nr rfl
@[simp] theorem jf0 (t:TypeId) (v:Value):nj (.iface t v)=True:=nr rfl
@[simp] theorem jk7 (cs:Array Value):nj (.agg cs)=True:=nr rfl
@[simp] theorem jf2 (cs:Array Value):nj (.tuple cs)=True:=nr rfl

@[simp] theorem jiw (t:Tmp):okX ts hp (.tmp t)=nj (ts t):=nr rfl
@[simp] theorem jcj (v:Value):okX ts hp (.const v)=(zau v=true):=nr rfl
@[simp] theorem z8u (g:Nat):okX ts hp (.global g)=(g<100/\(hp g).isSome=true):=nr rfl
@[simp] theorem jf5 (f:FuncId):okX ts hp (.func f)=True:=nr rfl
@[simp] theorem jhr (t:Tmp):gev ts (.tmp t)=ts t:=nr rfl
@[simp] theorem jbb (v:Value):gev ts (.const v)=v:=nr rfl
@[simp] theorem z8a (g:Nat):gev ts (.global g)=.pointer (some ⟨g,0,none⟩):=nr rfl
@[simp] theorem je0 (f:FuncId):gev ts (.func f)=.func (.func f) #[] #[]:=nr rfl

@[simp] theorem jas (k:IntKind) (n:Int):zgt (.int k n)=true:=nr rfl
@[simp] theorem jav (k:IntKind) (n:Int):za9 (.int k n)=true:=nr rfl
@[simp] theorem z2r (s:ByteArray):za9 (.string s)=true:=nr rfl
@[simp] theorem z2q:za9 (.pointer none)=true:=nr rfl
@[simp] theorem zyc (n c:Nat):za9 (.slice none n c)=true:=nr rfl
@[simp] theorem z74 (b:Bool):zgk (.bool b)=true:=nr rfl
@[simp] theorem jau (k:IntKind) (n:Int):zgk (.int k n)=true:=nr rfl
@[simp] theorem jat (cs:Array Value):zgk (.agg cs)=cs.all za9:=nr rfl
@[simp] theorem z75 (b:Bool):zau (.bool b)=true:=nr rfl
@[simp] theorem jay (k:IntKind) (n:Int):zau (.int k n)=true:=nr rfl
@[simp] theorem z2s (s:ByteArray):zau (.string s)=true:=nr rfl
@[simp] theorem zzx:zau .nilFunc=true:=nr rfl
@[simp] theorem zyd:zau .nilIface=true:=nr rfl
@[simp] theorem zye (n c:Nat):zau (.slice none n c)=true:=nr rfl
@[simp] theorem z49 (t:TypeId) (v:Value):zau (.iface t v)=zgt v:=nr rfl
@[simp] theorem jaw (cs:Array Value):zau (.agg cs)=cs.all za9:=nr rfl
@[simp] theorem z5a (cs:Array Value):zau (.tuple cs)=cs.all zgk:=nr rfl

@[simp] theorem jgk (k:IntKind) (n:Int):zj3 (.int k n)=true:=nr rfl
@[simp] theorem z3o (a:Option Addr):zj3 (.pointer a)=true:=nr rfl
@[simp] theorem z89 (a:Option Addr) (n c:Nat):zj3 (.slice a n c)=true:=nr rfl
@[simp] theorem z3d (b:Bool):za1 (.bool b)=true:=nr rfl
@[simp] theorem z6m (k:IntKind) (n:Int):za1 (.int k n)=true:=nr rfl
@[simp] theorem zwp (a:Option Addr):za1 (.pointer a)=true:=nr rfl
@[simp] theorem z05 (a:Option Addr) (n c:Nat):za1 (.slice a n c)=true:=nr rfl
@[simp] theorem z3e (f:Fn) (a b:Array Value):za1 (.func f a b)=true:=nr rfl
@[simp] theorem z6l (cs:Array Value):za1 (.agg cs)=cs.all zj3:=nr rfl

@[simp] theorem z6g (b:Bool):zde (.bool b)=true:=nr rfl
@[simp] theorem z8t (k:IntKind) (n:Int):zde (.int k n)=true:=nr rfl
@[simp] theorem z8s (cs:Array Value):zde (.agg cs)=true:=nr rfl

@[simp] theorem z82 (k:IntKind) (n:Int):zbj (.int k n)=true:=nr rfl
@[simp] theorem zyh (a:Option Addr):zbj (.pointer a)=true:=nr rfl
@[simp] theorem z7y (b:Bool):(Value.bool b).cells=#[.bool b]:=nr rfl
@[simp] theorem z95 (k:IntKind) (n:Int):(Value.int k n).cells=#[.int k n]:=nr rfl
@[simp] theorem zza (a:Option Addr):(Value.pointer a).cells=#[.pointer a]:=nr rfl
@[simp] theorem z4w (a:Option Addr) (n c:Nat):(Value.slice a n c).cells=#[.slice a n c]:=nr rfl
@[simp] theorem z7z (f:Fn) (a b:Array Value):(Value.func f a b).cells=#[.func f a b]:=nr rfl
@[simp] theorem z94 (cs:Array Value):(Value.agg cs).cells=cs:=nr rfl

@[simp] theorem jjr {α:Type} (f:Nat->α) (k:Nat) (v:α) (j:Nat):upd f k v j=if j=k then v else f j:=nr rfl
@[simp] theorem jgv:zbb hp []=hp:=nr rfl
@[simp] theorem jd4 (k:Nat) (b:Blk) (l:List (Nat×Blk)):zbb hp ((k,b)::l)=zbb (upd hp k (some b)) l:=nr rfl
@[simp] theorem jc5 (d:Tmp) (v:Value):zcq ts (some d) v=upd ts d v:=nr rfl
@[simp] theorem jc4 (v:Value):zcq ts none v=ts:=nr rfl
@[simp] theorem jfp:zab []=[]:=nr rfl
@[simp] theorem jbq (k:Nat) (b:Blk) (l:List (Nat×Blk)):zab ((k,b)::l)=k::zab l:=nr rfl
@[simp] theorem jjk (k:Nat) (tr:Tr):ze9 k [] [] tr=tr:=nr rfl
@[simp] theorem jjl (k x:Nat) (l wr:List Nat) (tr:Tr):ze9 k (x::l) wr tr=(k,x::l,wr)::tr:=nr rfl
@[simp] theorem jmz (v:Value) (rs:List Nat):(val v rs).v=v:=nr rfl
@[simp] theorem jln (v:Value) (rs:List Nat):(val v rs).rs=rs:=nr rfl
@[simp] theorem jlo (v:Value) (rs:List Nat):(val v rs).ws=[]:=nr rfl
@[simp] theorem jlm (v:Value) (rs:List Nat):(val v rs).ns=[]:=nr rfl
@[simp] theorem jjs (v:Value) (rs:List Nat):(val v rs).pan=none:=nr rfl
@[simp] theorem jlp (v:Value) (rs:List Nat):(val v rs).yl=false:=nr rfl
@[simp] theorem jhd (rs:List Nat) (v:Value) (ws:List (Nat×Blk)):(Res.ret v ws).eff rs=⟨v,rs,ws,[],none,false⟩:=nr rfl
@[simp] theorem jhb (rs:List Nat) (v:Value) (ns:List (Nat×Blk)):(Res.new v ns).eff rs=⟨v,rs,[],ns,none,false⟩:=nr rfl
@[simp] theorem jhc (rs:List Nat) (v:Value):(Res.pan v).eff rs=⟨zcj,rs,[],[],some v,false⟩:=nr rfl
@[simp] theorem jht (k:Nat):zju k=.pointer (some ⟨k,0,none⟩):=nr rfl
@[simp] theorem z9c (c:Array Value) (o:Nat):zcg c o []=c:=nr rfl
@[simp] theorem z67 (c:Array Value) (o:Nat) (v:Value) (l:List Value):zcg c o (v::l)=zcg (c.setIfInBounds o v) (o+1) l:=nr rfl

def zxv (v:Value) (w:Bool):Option Bool :=
 match v with
 | .bool b=>some (b==w)
 | .tuple _=>some false
 | _=>none
@[simp] theorem z9g (b w:Bool):zxv (.bool b) w=some (b==w):=nr rfl
@[simp] theorem z7j (w:Bool):zxv undef w=some false:=nr rfl
def zxu (d:Option Tmp) (w:Bool) (ts:Nat->Value):Option Bool :=
 match d with
 | some d=>zxv (ts d) w
 | none=>some false
@[simp] theorem z9f (d:Tmp) (w:Bool):zxu (some d) w ts=zxv (ts d) w:=nr rfl
@[simp] theorem zp2 (ops:Array Oper) (op:Op) (j:Nat) (w:Bool):zbv ops ⟨dst,op,type,pos,after,some (j,w)⟩ ts=zxu ((ops[j]?).bind (·.dst)) w ts:=by
 unfold zbv zxu zxv
 rfl

def z9h (w:Option Bool) (a b:Prop):Prop :=
 match w with
 | some true=>a
 | some false=>b
 | none=>False
@[simp] theorem zop (a b:Prop):z9h (some true) a b=a:=nr rfl
@[simp] theorem z9j (a b:Prop):z9h (some false) a b=b:=nr rfl
def zfc (seen:List (Option Tmp)) (k:Nat) (o:Oper) (ts:Nat->Value):Option Bool :=
 match o.guard with
 | none=>some true
 | some (j,w)=>if j<k then zxu ((seen[k - 1 - j]?).bind id) w ts else none
@[simp] theorem z30 (seen:List (Option Tmp)) (k:Nat) (op:Op):zfc seen k ⟨dst,op,type,pos,after,none⟩ ts=some true:=nr rfl
@[simp] theorem zoo (seen:List (Option Tmp)) (k:Nat) (op:Op) (j:Nat) (w:Bool):zfc seen k ⟨dst,op,type,pos,after,some (j,w)⟩ ts=if j<k then zxu ((seen[k - 1 - j]?).bind id) w ts else none:=nr rfl
structure QQ where
 q:(Nat->Value)->Hp->Tr->Nat->Prop
 p:Value->Tr->Prop
def z8z (pan:Option Value) (a:Prop) (b:Value->Prop):Prop :=
 match pan with
 | none=>a
 | some v=>b v
@[simp] theorem jcu (a:Prop) (b:Value->Prop):z8z none a b=a:=nr rfl
@[simp] theorem jcv (a:Prop) (b:Value->Prop) (v:Value):z8z (some v) a b=b v:=nr rfl
@[congr] theorem z80 {pan pan':Option Value} {a:Prop} {b:Value->Prop} (h:pan=pan'):z8z pan a b=z8z pan' a b:=by rw [h]
def ziy (P:Program) (G:Hp) (V:XV) (base:Nat) (Q:QQ):List (Option Tmp)->Nat->List Oper->(Nat->Value)->Hp->Tr->Nat->Bool->Bool->Prop
 | _,_,[],ts,hp,tr,yc,_,_=>Q.q ts hp tr yc
 | seen,k,o::rest,ts,hp,tr,yc,wr,yd=>z9h (zfc seen k o ts) (opX P G V yc o ts hp (base+8*k) λe=>(e.yl=true->e.ws=[]->yd=false)/\z8z e.pan
    (ziy P G V base Q (o.dst::seen) (k+1) rest (zcq ts o.dst e.v) (zbb hp (e.ws++e.ns)) (ze9 k (e.rs++zab e.ns) (zab e.ws++zab e.ns) tr) (if e.yl then yc+1 else yc) (wr||!e.ws.isEmpty) (yd||(e.yl&&e.ws.isEmpty)))
    (λpv=>(V.dr=true->rest.isEmpty=true)/\(wr||!e.ws.isEmpty)=false/\Q.p pv (ze9 k (e.rs++zab e.ns) (zab e.ws++zab e.ns) tr)))
   (unD o ts/\ziy P G V base Q (o.dst::seen) (k+1) rest (zcq ts o.dst undef) hp tr yc wr yd)
theorem zk2 {ops:Array Oper} {seen:List (Option Tmp)} {k:Nat} {o:Oper} {b:Bool} (hs:∀ j,j<k->(seen[k - 1 - j]?).bind id=(ops[j]?).bind (·.dst)) (h:zfc seen k o ts=some b):zbv ops o ts=some b:=by
 obtain ⟨dst,op,type,pos,after,guard⟩:=o
 cases guard with
 | none=>exact h
 | some p =>
  obtain ⟨j,w⟩:=p
  rw [zoo] at h
  rw [zp2]
  split at h
  ·rename_i hj;rw [hs j hj] at h;exact h
  ·cases h
theorem zv0 {C':Eff->Prop} (hc:∀ e,C e->C' e) {m k v:Value} (h:z5t hp m k v C):z5t hp m k v C':=by
 unfold z5t zsu at *
 repeat' split at h
 all_goals first|exact h.elim|exact ⟨h.1,h.2.1,hc _ h.2.2⟩
theorem z0k {C':Eff->Prop} (hc:∀ e,C e->C' e) {m k:Value} (h:lkX hp m k C):lkX hp m k C':=by
 unfold lkX z8q at *
 repeat' split at h
 all_goals first|exact h.elim|exact ⟨h.1,hc _ h.2⟩
theorem z02 {v:Value} {C C':Eff->Prop} (hc:∀ e,C e->C' e) (h:ncX v C):ncX v C':=by
 unfold ncX at *
 split at h
 ·exact hc _ h
 ·exact h.elim
theorem z0v {u:Option TypeDesc} {v w:Value} {C C':Eff->Prop} (hc:∀ e,C e->C' e) (h:msU P nk u v w C):msU P nk u v w C':=by
 unfold msU msM msZ at *
 repeat' split at h
 all_goals first|exact h.elim|exact ⟨h.1,h.2.1,h.2.2.1,h.2.2.2.1,h.2.2.2.2.1,h.2.2.2.2.2.1,hc _ h.2.2.2.2.2.2⟩
theorem zra {o:Oper} {C':Eff->Prop} (hc:∀ e,C e->C' e) (h:opX P G V yc o ts hp nk C):opX P G V yc o ts hp nk C':=by
 have hi:=@zv0 hp C C' hc
 have hl:=@z0k hp C C' hc
 have hn:=@z02 (C:=C) (C':=C') (hc:=hc)
 have hq:=@z0v P nk (C:=C) (C':=C') (hc:=hc)
 unfold opX zr9 zhw zbe zo4 zhz zk7 ztb at *
 repeat' split at h
 all_goals first|exact h.elim|exact ⟨h.1,h.2.1,h.2.2.1,h.2.2.2.1,h.2.2.2.2.1,hi h.2.2.2.2.2⟩|exact ⟨h.1,h.2.1,h.2.2.1,h.2.2.2.1,hl h.2.2.2.2⟩|exact ⟨h.1,hn h.2⟩|exact ⟨h.1,h.2.1,hq h.2.2⟩|skip
 all_goals grind
theorem zeg {ops:Array Oper} {base:Nat} {Q:QQ}:∀ (l:List Oper) (seen:List (Option Tmp)) (k:Nat) (ts:Nat->Value) (hp:Hp) (tr:Tr) (yc:Nat) (wr yd:Bool),(∀ j,j<k->(seen[k - 1 - j]?).bind id=(ops[j]?).bind (·.dst))->(∀ i,l[i]? = ops[k+i]?) ->
  ziy P G V base Q seen k l ts hp tr yc wr yd->zlu P G V ops base Q.q Q.p k l ts hp tr yc wr yd
 | [],_,_,_,_,_,_,_,_,_,_,h=>h
 | o::l,seen,k,ts,hp,tr,yc,wr,yd,hs,hl,h=>by
  have ho:ops[k]? = some o:=by have:=hl 0;simpa using this.symm
  have hs':∀ j,j<k+1->((o.dst::seen)[k+1 - 1 - j]?).bind id=(ops[j]?).bind (·.dst):=λj hj=>by
   by_cases e:j=k
   ·subst e;simp [ho]
   ·have:k+1 - 1 - j=(k - 1 - j)+1:=by omega
    rw [this,List.getElem?_cons_succ];exact hs j (by omega)
  have hl':∀ i,l[i]? = ops[k+1+i]?:=λi=>by
   have:=hl (i+1)
   rw [List.getElem?_cons_succ] at this
   rw [this];congr 1;omega
  simp only [ziy] at h
  simp only [zlu]
  cases hw:zfc seen k o ts with
  | none=>rw [hw] at h;exact h.elim
  | some b =>
   rw [hw] at h
   rw [zk2 hs hw]
   cases b with
   | true =>
    rw [zop] at h
    refine zra (λe he=>⟨he.1,?_⟩) h
    have he:=he.2
    cases hpn:e.pan with
    | none=>rw [hpn] at he;exact zeg l _ _ _ _ _ _ _ _ hs' hl' he
    | some pv=>rw [hpn] at he;exact ⟨λhd=>by simpa using he.1 hd,he.2⟩
   | false=>exact ⟨h.1,zeg l _ _ _ _ _ _ _ _ hs' hl' h.2⟩
theorem zym {Ct:Ctx} {n:Nat} {d:List Deferred} {ro:Option Nat} {s:GS} {K:Exit->GS->Prop} {id:Nat} {l:List Oper} (pn:List FuncId) (hm:P.follows .mixedOrders=true) (hB:Region.lexFrom .any l.toArray l.length 0 (Array.replicate l.length false)=true) (hdst:(zil n l&&zxq P l)=true)
  (h:∀ (Q:QQ),(∀ ts hp tr yc,chk .any l.toArray tr=true->K .normal ⟨ts,hp,s.B+8*l.length,yc⟩->Q.q ts hp tr yc) ->
   (∀ pv tr,chk .any l.toArray tr=true->(∀ yc,K (.panic [{ v:=pv,recovered:=false }]) ⟨zhe l s.ts,s.hp,s.B,yc⟩)->Q.p pv tr)->ziy P Ct.G ⟨Ct.Y,pn,true⟩ s.B Q [] 0 l s.ts s.hp [] s.yc false false):GW P Ct n d ro (.region id l.toArray true) s K :=
 z39 pn hm hB hdst λQ Qp hQ hQp=>zeg (Q:=⟨Q,Qp⟩) l [] 0 _ _ _ _ _ _ (λj hj=>absurd hj (Nat.not_lt_zero j)) (λi=>by simp) (h ⟨Q,Qp⟩ hQ hQp)
theorem zct {Ct:Ctx} {n:Nat} {d:List Deferred} {ro:Option Nat} {s:GS} {K:Exit->GS->Prop} {id:Nat} {l:List Oper} (pn:List FuncId) (hdst:(zil n l&&zxq P l)=true)
  (h:∀ (Q:QQ),(∀ ts hp tr yc,K .normal ⟨ts,hp,s.B+8*l.length,yc⟩->Q.q ts hp tr yc) ->
   (∀ pv tr,(∀ yc,K (.panic [{ v:=pv,recovered:=false }]) ⟨zhe l s.ts,s.hp,s.B,yc⟩)->Q.p pv tr)->ziy P Ct.G ⟨Ct.Y,pn,false⟩ s.B Q [] 0 l s.ts s.hp [] s.yc false false):GW P Ct n d ro (.region id l.toArray false) s K :=
 zub pn hdst λQ Qp hQ hQp=>zeg (Q:=⟨Q,Qp⟩) l [] 0 _ _ _ _ _ _ (λj hj=>absurd hj (Nat.not_lt_zero j)) (λi=>by simp) (h ⟨Q,Qp⟩ hQ hQp)

def zy8 (C:Eff->Prop) (v:Value):Prop:=C (val v [])
@[simp] theorem z92 (v:Value):zy8 C v=C (val v []):=nr rfl
def zja (P:Program) (G:Hp) (V:XV) (base:Nat) (Q:QQ) (seen:List (Option Tmp)) (k:Nat) (rest:List Oper) (dst:Option Tmp) (ts:Nat->Value) (hp:Hp) (tr:Tr) (yc:Nat) (wr yd:Bool) (e:Eff):Prop :=
 (e.yl=true->e.ws=[]->yd=false)/\z8z e.pan
    (ziy P G V base Q (dst::seen) (k+1) rest (zcq ts dst e.v) (zbb hp (e.ws++e.ns)) (ze9 k (e.rs++zab e.ns) (zab e.ws++zab e.ns) tr) (if e.yl then yc+1 else yc) (wr||!e.ws.isEmpty) (yd||(e.yl&&e.ws.isEmpty)))
    (λpv=>(V.dr=true->rest.isEmpty=true)/\(wr||!e.ws.isEmpty)=false/\Q.p pv (ze9 k (e.rs++zab e.ns) (zab e.ws++zab e.ns) tr))
@[simp] theorem z99 (base:Nat) (Q:QQ) (seen:List (Option Tmp)) (k:Nat) (rest:List Oper) (tr:Tr) (wr yd:Bool) (v:Value) (rs:List Nat):zja P G V base Q seen k rest dst ts hp tr yc wr yd (val v rs) =
 ziy P G V base Q (dst::seen) (k+1) rest (zcq ts dst v) hp (ze9 k rs [] tr) yc wr yd:=by simp [zja]
@[simp] theorem jet (base:Nat) (Q:QQ) (seen:List (Option Tmp)) (k:Nat) (rest:List Oper) (tr:Tr) (wr yd:Bool) (v:Value) (rs:List Nat) (ws ns:List (Nat×Blk)):zja P G V base Q seen k rest dst ts hp tr yc wr yd ⟨v,rs,ws,ns,none,false⟩ =
 ziy P G V base Q (dst::seen) (k+1) rest (zcq ts dst v) (zbb hp (ws++ns)) (ze9 k (rs++zab ns) (zab ws++zab ns) tr) yc (wr||!ws.isEmpty) yd:=by simp [zja]
@[simp] theorem jeu (base:Nat) (Q:QQ) (seen:List (Option Tmp)) (k:Nat) (rest:List Oper) (tr:Tr) (wr yd:Bool) (v:Value):zja P G V base Q seen k rest dst ts hp tr yc wr yd ⟨v,[],[],[],none,true⟩ =
 (yd=false/\ziy P G V base Q (dst::seen) (k+1) rest (zcq ts dst v) hp tr (yc+1) wr true):=by simp [zja]
@[simp] theorem jaa (base:Nat) (Q:QQ) (seen:List (Option Tmp)) (k:Nat) (rest:List Oper) (tr:Tr) (wr yd:Bool) (v:Value) (w:Nat) (b:Blk):zja P G V base Q seen k rest dst ts hp tr yc wr yd ⟨v,[w],[(w,b)],[],none,true⟩ =
 ziy P G V base Q (dst::seen) (k+1) rest (zcq ts dst v) (zbb hp [(w,b)]) (ze9 k [w] [w] tr) (yc+1) true yd:=by simp [zja,zab]
@[simp] theorem z98 (base:Nat) (Q:QQ) (seen:List (Option Tmp)) (k:Nat) (rest:List Oper) (tr:Tr) (wr yd:Bool) (v pv:Value) (rs:List Nat):zja P G V base Q seen k rest dst ts hp tr yc wr yd ⟨v,rs,[],[],some pv,false⟩ =
 ((V.dr=true->rest.isEmpty=true)/\wr=false/\Q.p pv (ze9 k rs [] tr)):=by simp [zja]
@[simp] theorem jfr (base:Nat) (Q:QQ) (seen:List (Option Tmp)) (k:Nat) (tr:Tr) (wr yd:Bool):ziy P G V base Q seen k [] ts hp tr yc wr yd=Q.q ts hp tr yc:=nr rfl
@[simp] theorem jbs (base:Nat) (Q:QQ) (seen:List (Option Tmp)) (k:Nat) (tr:Tr) (wr yd:Bool) (op:Op) (rest:List Oper):ziy P G V base Q seen k (⟨dst,op,type,pos,after,guard⟩::rest) ts hp tr yc wr yd =
  z9h (zfc seen k ⟨dst,op,type,pos,after,guard⟩ ts) (opX P G V yc ⟨dst,op,type,pos,after,guard⟩ ts hp (base+8*k) (zja P G V base Q seen k rest dst ts hp tr yc wr yd))
   (unD ⟨dst,op,type,pos,after,guard⟩ ts/\ziy P G V base Q (dst::seen) (k+1) rest (zcq ts dst undef) hp tr yc wr yd):=nr rfl

@[simp] theorem jgr (x:Operand):unD ⟨dst,.move x,type,pos,after,guard⟩ ts=True:=nr rfl
@[simp] theorem jgs (c:Operand) (x:Operand) (y:Operand):unD ⟨dst,.pick c x y,type,pos,after,guard⟩ ts=True:=nr rfl
@[simp] theorem jdz (T:TypeId) (ps:Array (Nat×Operand)):unD ⟨dst,.build T ps,type,pos,after,guard⟩ ts=True:=nr rfl
@[simp] theorem jgq (T:TypeId) (x:Operand):unD ⟨dst,.load T x,type,pos,after,guard⟩ ts=True:=nr rfl
@[simp] theorem z3z (x:Operand):unD ⟨dst,.nilCheck x,type,pos,after,guard⟩ ts=True:=nr rfl
@[simp] theorem jdy (b:BinOp) (T:TypeId) (x:Operand) (y:Operand) (T2:TypeId):unD ⟨dst,.binOp b T x y T2,type,pos,after,guard⟩ ts=True:=nr rfl
@[simp] theorem jgt (u:UnOp) (T:TypeId) (x:Operand):unD ⟨dst,.unOp u T x,type,pos,after,guard⟩ ts=True:=nr rfl
@[simp] theorem z1n (T:TypeId) (x:Operand) (f:Nat):unD ⟨dst,.fieldAddr T x f,type,pos,after,guard⟩ ts=True:=nr rfl
@[simp] theorem z1o (T:TypeId) (x:Operand) (i:Operand):unD ⟨dst,.indexAddr T x i,type,pos,after,guard⟩ ts=True:=nr rfl
@[simp] theorem jd2 (t:Tmp) (a:Array Operand) (T:Array TypeId):unD ⟨dst,.call ⟨.value (.tmp t),a,T⟩,type,pos,after,guard⟩ ts=(ts t=undef):=nr rfl
@[simp] theorem jd1 (f:FuncId) (a:Array Operand) (T:Array TypeId):unD ⟨dst,.call ⟨.value (.func f),a,T⟩,type,pos,after,guard⟩ ts=True:=nr rfl
@[simp] theorem jd0 (b:Builtin) (a:Array Operand) (T:Array TypeId):unD ⟨dst,.call ⟨.builtin b,a,T⟩,type,pos,after,guard⟩ ts=True:=nr rfl

def z23 (u:Option TypeDesc) (T:TypeId) (v:Value) (C:Eff->Prop):Prop :=
 match u with
 | some (.interface _)=>False
 | some _=>C (val (.iface T v) [])
 | none=>False
@[simp ↓] theorem jf9 (x:Operand):opX P G V yc ⟨dst,.move x,type,pos,after,guard⟩ ts hp nk C=(okX ts hp x/\C (val (gev ts x) [])):=nr rfl
@[simp ↓] theorem z8v (x:Operand):opX P G V yc ⟨dst,.assign x,type,pos,after,guard⟩ ts hp nk C=(okX ts hp x/\C (val (gev ts x) [])):=nr rfl
def z09 (ts:Nat->Value) (hp:Hp) (v:Value) (x y:Operand) (C:Eff->Prop):Prop :=
 match v with
 | .bool b=>(b=true->okX ts hp x)/\(b=false->okX ts hp y)/\C (val (if b then gev ts x else gev ts y) [])
 | _=>False
@[simp] theorem z81 (b:Bool) (x y:Operand):z09 ts hp (.bool b) x y C=((b=true->okX ts hp x)/\(b=false->okX ts hp y)/\C (val (if b then gev ts x else gev ts y) [])):=nr rfl
@[simp ↓] theorem jga (c x y:Operand):opX P G V yc ⟨dst,.pick c x y,type,pos,after,guard⟩ ts hp nk C=(okX ts hp c/\z09 ts hp (gev ts c) x y C):=nr rfl
def zqd (z:Option Value) (nk:Nat) (T:TypeId) (C:Eff->Prop):Prop :=
 match z with
 | some z=>za1 z=true/\zau z=true/\C ⟨zju nk,[],[],[(nk,⟨z.cells,T⟩)],none,false⟩
 | none=>False
@[simp] theorem z4k (z:Value) (T:TypeId):zqd (some z) nk T C=(za1 z=true/\zau z=true/\C ⟨zju nk,[],[],[(nk,⟨z.cells,T⟩)],none,false⟩):=nr rfl
@[simp ↓] theorem jck (T:TypeId):opX P G V yc ⟨dst,.alloc T,type,pos,after,guard⟩ ts hp nk C=zqd (zbd P T) nk T C:=nr rfl
@[simp ↓] theorem jiz (T:TypeId) (x:Operand):opX P G V yc ⟨dst,.box T x,type,pos,after,guard⟩ ts hp nk C=(okX ts hp x/\za1 (gev ts x)=true/\C ⟨zju nk,[],[],[(nk,⟨(gev ts x).cells,T⟩)],none,false⟩):=nr rfl
def znz (v:Option Value) (k:Nat) (C:Eff->Prop):Prop :=
 match v with
 | some v=>C (val v [k])
 | none=>False
@[simp] theorem z5x (v:Value) (k:Nat):znz (some v) k C=C (val v [k]):=nr rfl
def zny (P:Program) (T:TypeId) (b:Option Blk) (k off:Nat) (C:Eff->Prop):Prop :=
 match b with
 | some b=>znz (zc2 P T b off) k C
 | none=>False
@[simp] theorem jfu (T t:TypeId) (c:Array Value) (off:Nat):zc2 P T ⟨c,.ty t⟩ off=zbx P T c off:=nr rfl
@[simp] theorem z5w (T:TypeId) (b:Blk) (k off:Nat):zny P T (some b) k off C=znz (zc2 P T b off) k C:=nr rfl
def z0m (P:Program) (T:TypeId) (hp:Hp) (v:Value) (C:Eff->Prop):Prop :=
 match v with
 | .pointer (some ⟨k,off,none⟩)=>zny P T (hp k) k off C
 | _=>False
@[simp] theorem jby (T:TypeId) (k off:Nat):z0m P T hp (.pointer (some ⟨k,off,none⟩)) C=zny P T (hp k) k off C:=nr rfl
@[simp ↓] theorem jf8 (T:TypeId) (x:Operand):opX P G V yc ⟨dst,.load T x,type,pos,after,guard⟩ ts hp nk C=(okX ts hp x/\z0m P T hp (gev ts x) C):=nr rfl
def zjr (P:Program) (T:TypeId) (b:Option Blk) (k off:Nat) (w:Value) (C:Eff->Prop):Prop :=
 match b with
 | some b=>b.T.own=true/\za1 w=true/\zas P T=some w.cells.size/\off+w.cells.size<=b.c.size/\100<=k/\C ⟨undef,[k],[(k,⟨zcg b.c off w.cells.toList,b.T⟩)],[],none,false⟩
 | none=>False
@[simp] theorem z3x (T:TypeId) (c:Array Value) (T':BTy) (k off:Nat) (w:Value):zjr P T (some ⟨c,T'⟩) k off w C=(BTy.own T'=true/\za1 w=true/\zas P T=some w.cells.size/\off+w.cells.size<=c.size/\100<=k/\C ⟨undef,[k],[(k,⟨zcg c off w.cells.toList,T'⟩)],[],none,false⟩):=nr rfl
def zrf (P:Program) (T:TypeId) (hp:Hp) (v w:Value) (C:Eff->Prop):Prop :=
 match v with
 | .pointer (some ⟨k,off,none⟩)=>zjr P T (hp k) k off w C
 | _=>False
@[simp] theorem z9d (T:TypeId) (k off:Nat) (w:Value):zrf P T hp (.pointer (some ⟨k,off,none⟩)) w C=zjr P T (hp k) k off w C:=nr rfl
@[simp ↓] theorem jcs (T:TypeId) (x y:Operand):opX P G V yc ⟨dst,.store T x y,type,pos,after,guard⟩ ts hp nk C=(okX ts hp x/\okX ts hp y/\zrf P T hp (gev ts x) (gev ts y) C):=nr rfl
@[simp ↓] theorem z6p (T:TypeId) (y:Option Operand):opX P G V yc ⟨dst,.makeMap T y,type,pos,after,guard⟩ ts hp nk C=(y.isNone=true/\C ⟨.map (some nk),[],[],[(nk,mpB [])],none,false⟩):=nr rfl
@[simp] theorem jez (f:Fn) (a b:Array Value):fnV (.func f a b)=true:=nr rfl
@[simp] theorem z8m (l:List (ByteArray×Value)) (k:Nat) (s:ByteArray) (v:Value):zsu (some (mpB l)) k s v C=(zcs s l=none/\100<=k/\C ⟨undef,[k],[(k,mpB (l++[(s,v)]))],[],none,false⟩):=by simp [zsu,zq6]
@[simp] theorem je9 (q:Nat) (s:ByteArray) (v:Value):z5t hp (.map (some q)) (.string s) v C=zsu (hp q) q s v C:=nr rfl
@[simp ↓] theorem z8x (T:TypeId) (m k x:Operand):opX P G V yc ⟨dst,.insert T m k x,type,pos,after,guard⟩ ts hp nk C=(okX ts hp m/\okX ts hp k/\okX ts hp x/\zf3 P T=true/\fnV (gev ts x)=true/\z5t hp (gev ts m) (gev ts k) (gev ts x) C):=nr rfl
def jig (v:Option Value) (k:Nat) (C:Eff->Prop):Prop:=match v with
 | some v=>fnV v=true/\C (val v [k])
 | none=>False
@[simp] theorem jbu (v:Value) (k:Nat):jig (some v) k C=(fnV v=true/\C (val v [k])):=nr rfl
@[simp] theorem jbt (l:List (ByteArray×Value)) (k:Nat) (s:ByteArray):z8q (some (mpB l)) k s C=jig (zcs s l) k C:=by unfold z8q jig;rw [Option.bind_some,zq6];rfl
@[simp] theorem jih (q:Nat) (s:ByteArray):lkX hp (.map (some q)) (.string s) C=z8q (hp q) q s C:=nr rfl
@[simp ↓] theorem z8y (T:TypeId) (x i:Operand) (ok:Bool):opX P G V yc ⟨dst,.lookup T x i ok,type,pos,after,guard⟩ ts hp nk C=(okX ts hp x/\okX ts hp i/\ok=false/\zf3 P T=true/\lkX hp (gev ts x) (gev ts i) C):=nr rfl
def zfm (v:Option Value) (C:Eff->Prop):Prop :=
 match v with
 | some v=>zde v=true/\C (val v [])
 | none=>False
@[simp] theorem zx9 (v:Value):zfm (some v) C=(zde v=true/\C (val v [])):=nr rfl
def zis (v:Value) (i:Nat) (C:Eff->Prop):Prop :=
 match v with
 | .tuple vs=>zfm vs[i]? C
 | _=>False
@[simp] theorem zyb (vs:Array Value) (i:Nat):zis (.tuple vs) i C=zfm vs[i]? C:=nr rfl
@[simp ↓] theorem z6o (x:Operand) (i:Nat):opX P G V yc ⟨dst,.extract x i,type,pos,after,guard⟩ ts hp nk C=(okX ts hp x/\zis (gev ts x) i C):=nr rfl
def zpe (s:Option Nat) (k off:Nat) (m:Int) (C:Eff->Prop):Prop :=
 match s with
 | some s=>C (val (.pointer (some ⟨k,off+m.toNat*s,none⟩)) [])
 | none=>False
@[simp] theorem z8h (s k off:Nat) (m:Int):zpe (some s) k off m C=C (val (.pointer (some ⟨k,off+m.toNat*s,none⟩)) []):=nr rfl
def zvx (P:Program) (v:Value) (len:Nat) (e:TypeId) (m:Int) (C:Eff->Prop):Prop :=
 match v with
 | .pointer (some ⟨k,off,none⟩)=>(0<=m/\m<len)/\zpe (zas P e) k off m C
 | _=>False
@[simp] theorem jbm (k off len:Nat) (e:TypeId) (m:Int):zvx P (.pointer (some ⟨k,off,none⟩)) len e m C=((0<=m/\m<len)/\zpe (zas P e) k off m C):=nr rfl
def zvy (P:Program) (v:Value) (e:TypeId) (m:Int) (C:Eff->Prop):Prop :=
 match v with
 | .slice (some ⟨k,off,none⟩) len _=>(0<=m/\m<len)/\zpe (zas P e) k off m C
 | _=>False
@[simp] theorem z5s (k off len cap:Nat) (e:TypeId) (m:Int):zvy P (.slice (some ⟨k,off,none⟩) len cap) e m C=((0<=m/\m<len)/\zpe (zas P e) k off m C):=nr rfl
def z8g (P:Program) (u:Option TypeDesc) (v:Value) (m:Int) (C:Eff->Prop):Prop :=
 match u with
 | some (.array len e)=>zvx P v len e m C
 | some (.slice e)=>zvy P v e m C
 | _=>False
@[simp] theorem z8i (len:Nat) (e:TypeId) (v:Value) (m:Int):z8g P (some (.array len e)) v m C=zvx P v len e m C:=nr rfl
@[simp] theorem z8k (e:TypeId) (v:Value) (m:Int):z8g P (some (.slice e)) v m C=zvy P v e m C:=nr rfl
def zz8 (P:Program) (T:TypeId) (i v:Value) (C:Eff->Prop):Prop :=
 match i with
 | .int _ m=>z8g P (P.underlying T) v m C
 | _=>False
@[simp] theorem jbl (T:TypeId) (k:IntKind) (m:Int) (v:Value):zz8 P T (.int k m) v C=z8g P (P.underlying T) v m C:=nr rfl
@[simp ↓] theorem jcp (T:TypeId) (x i:Operand):opX P G V yc ⟨dst,.indexAddr T x i,type,pos,after,guard⟩ ts hp nk C=(okX ts hp x/\okX ts hp i/\zz8 P T (gev ts i) (gev ts x) C):=nr rfl
def zyf (ts:Nat->Value) (args:Array Operand):List Value:=args.toList.map (gev ts)
@[simp] theorem jhs (l:List Operand):zyf ts l.toArray=l.map (gev ts):=by simp [zyf]
def zmp (P:Program) (e:TypeId) (s:Option Nat) (v:Value) (m:Int) (C:Eff->Prop):Prop :=
 match s with
 | some s=>match v with
  | .agg cs=>unX' (zbx P e cs (m.toNat*s)) C
  | _=>False
 | none=>False
where unX' (v:Option Value) (C:Eff->Prop):Prop :=
 match v with
 | some v=>C (val v [])
 | none=>False
@[simp] theorem jbk (e:TypeId) (s:Nat) (cs:Array Value) (m:Int):zmp P e (some s) (.agg cs) m C=zmp.unX' (zbx P e cs (m.toNat*s)) C:=nr rfl
@[simp] theorem jh9 (v:Value):zmp.unX' (some v) C=C (val v []):=nr rfl
@[congr] theorem zz7 {v v':Option Value} (h:v=v'):zmp.unX' v C=zmp.unX' v' C:=by rw [h]
@[congr] theorem z8f {e:TypeId} {s s':Option Nat} {v v':Value} {m m':Int} (h1:s=s') (h2:v=v') (h3:m=m'):zmp P e s v m C=zmp P e s' v' m' C:=by rw [h1,h2,h3]
def z21 (s:ByteArray) (m:Int) (C:Eff->Prop):Prop :=
 match (if 0<=m then s[m.toNat]? else none) with
 | some b=>C (val (.int .u8 b.toNat) [])
 | none=>False
def zst (v:Value) (m:Int) (C:Eff->Prop):Prop :=
 match v with
 | .string s=>z21 s m C
 | _=>False
@[simp] theorem jbj (s:ByteArray) (m:Int):zst (.string s) m C=z21 s m C:=nr rfl
@[congr] theorem z5m {v v':Value} {m m':Int} (h1:v=v') (h2:m=m'):zst v m C=zst v' m' C:=by rw [h1,h2]
@[congr] theorem z8e {s s':ByteArray} {m m':Int} (h1:s=s') (h2:m=m'):z21 s m C=z21 s' m' C:=by rw [h1,h2]
theorem z5n {s:ByteArray} {m:Int} {b:UInt8} (h0:0<=m) (h:s[m.toNat]? = some b):z21 s m C=C (val (.int .u8 b.toNat) []):=by simp [z21,h0,h]
def z5l (P:Program) (u:Option TypeDesc) (v:Value) (m:Int) (C:Eff->Prop):Prop :=
 match u with
 | some (.array len e)=>(0<=m/\m<len)/\zmp P e (zas P e) v m C
 | some .string=>zst v m C
 | _=>False
@[simp] theorem je8 (v:Value) (m:Int):z5l P (some .string) v m C=zst v m C:=nr rfl
@[simp] theorem je7 (len:Nat) (e:TypeId) (v:Value) (m:Int):z5l P (some (.array len e)) v m C=((0<=m/\m<len)/\zmp P e (zas P e) v m C):=nr rfl
@[congr] theorem z8d {u u':Option TypeDesc} {v v':Value} {m m':Int} (h1:u=u') (h2:v=v') (h3:m=m'):z5l P u v m C=z5l P u' v' m' C:=by rw [h1,h2,h3]
def jbi (P:Program) (T:TypeId) (i v:Value) (C:Eff->Prop):Prop :=
 match i with
 | .int _ m=>z5l P (P.underlying T) v m C
 | _=>False
@[simp] theorem je6 (T:TypeId) (k:IntKind) (m:Int) (v:Value):jbi P T (.int k m) v C=z5l P (P.underlying T) v m C:=nr rfl
@[congr] theorem z8c {T:TypeId} {i i' v v':Value} (h1:i=i') (h2:v=v'):jbi P T i v C=jbi P T i' v' C:=by rw [h1,h2]
@[simp ↓] theorem z8w (T:TypeId) (x i:Operand):opX P G V yc ⟨dst,.index T x i,type,pos,after,guard⟩ ts hp nk C=(okX ts hp x/\okX ts hp i/\jbi P T (gev ts i) (gev ts x) C):=by
 simp only [opX,jbi]
 congr 2
 cases gev ts i<;>first|rfl|skip
 unfold z5l
 simp only
 cases hu:P.underlying T with
 | none=>rfl
 | some u =>
  cases u<;>first|rfl|skip
  ·simp only
   unfold zmp
   cases hg:gev ts x<;>cases hs:zas P _<;>first|rfl|(simp;done)|skip
   all_goals (simp only [zmp.unX'];cases zbx P _ _ _<;>rfl)
  all_goals (simp only;unfold zst z21;cases gev ts x<;>rfl)
def ja6 (P:Program) (f:Option (TypeId×Nat)) (v:Value) (C:Eff->Prop):Prop :=
 match f with
 | some (t,off)=>match v with
  | .agg cs=>zmp.unX' (zbx P t cs off) C
  | _=>False
 | none=>False
@[simp] theorem ja7 (t:TypeId) (off:Nat) (cs:Array Value):ja6 P (some (t,off)) (.agg cs) C=zmp.unX' (zbx P t cs off) C:=nr rfl
@[congr] theorem z78 {f f':Option (TypeId×Nat)} {v v':Value} (h1:f=f') (h2:v=v'):ja6 P f v C=ja6 P f' v' C:=by rw [h1,h2]
@[simp ↓] theorem jcn (T:TypeId) (x:Operand) (f:Nat):opX P G V yc ⟨dst,.field T x f,type,pos,after,guard⟩ ts hp nk C=(okX ts hp x/\ja6 P (fdX P T f) (gev ts x) C):=by
 simp only [opX,ja6]
 congr 1
def jey (f:Option (TypeId×Nat)) (v:Value) (C:Eff->Prop):Prop :=
 match f with
 | some (_,off)=>match v with
  | .pointer (some ⟨k,o,none⟩)=>C (val (.pointer (some ⟨k,o+off,none⟩)) [])
  | _=>False
 | none=>False
@[simp] theorem jap (t:TypeId) (off k o:Nat):jey (some (t,off)) (.pointer (some ⟨k,o,none⟩)) C=C (val (.pointer (some ⟨k,o+off,none⟩)) []):=nr rfl
@[congr] theorem z71 {f f':Option (TypeId×Nat)} {v v':Value} (h1:f=f') (h2:v=v'):jey f v C=jey f' v' C:=by rw [h1,h2]
@[simp] theorem jmb (k o:Nat):ncX (.pointer (some ⟨k,o,none⟩)) C=C (val (.pointer (some ⟨k,o,none⟩)) []):=nr rfl
@[congr] theorem jcf {v v':Value} (h:v=v'):ncX v C=ncX v' C:=by rw [h]
@[simp ↓] theorem z3g (x:Operand):opX P G V yc ⟨dst,.nilCheck x,type,pos,after,guard⟩ ts hp nk C=(okX ts hp x/\ncX (gev ts x) C):=nr rfl
@[simp ↓] theorem z07 (T:TypeId) (x:Operand) (f:Nat):opX P G V yc ⟨dst,.fieldAddr T x f,type,pos,after,guard⟩ ts hp nk C=(okX ts hp x/\jey (fdX P T f) (gev ts x) C):=nr rfl
def ja8 (ts:Nat->Value) (o:Option Operand):Option Value:=o.map (gev ts)
@[simp] theorem jba (x:Operand):ja8 ts (some x)=some (gev ts x):=nr rfl
@[simp] theorem ja9:ja8 ts none=none:=nr rfl
@[simp ↓] theorem jcr (T:TypeId) (x:Operand) (lo hi mx:Option Operand):opX P G V yc ⟨dst,.slice T x lo hi mx,type,pos,after,guard⟩ ts hp nk C =
 (okX ts hp x/\(∀ y∈lo.toList,okX ts hp y)/\(∀ y∈hi.toList,okX ts hp y)/\mx.isNone=true/\zmp.unX' (slX P T (gev ts x) (ja8 ts lo) (ja8 ts hi)) C):=by
 simp only [opX,ja8]
 cases slX P T (gev ts x) (lo.map (gev ts)) (hi.map (gev ts))<;>rfl
def slU (P:Program) (u:Option TypeDesc) (v:Value) (lo hi:Option Value):Option Value :=
 match u with
 | some (.array n e)=>match v with
  | .pointer (some ⟨k,off,none⟩)=>match zas P e with
   | some s=>slV (some (k,off)) s n (zdz n n lo hi)
   | none=>none
  | _=>none
 | some (.slice e)=>match v with
  | .slice (some ⟨k,off,none⟩) n c=>match zas P e with
   | some s=>slV (some (k,off)) s c (zdz n c lo hi)
   | none=>none
  | .slice none n c=>match zas P e with
   | some s=>slV none s c (zdz n c lo hi)
   | none=>none
  | _=>none
 | some .string=>match v with
  | .string s=>slS s (zdz s.size s.size lo hi)
  | _=>none
 | _=>none
@[simp] theorem jll (T:TypeId) (v:Value) (lo hi:Option Value):slX P T v lo hi=slU P (P.underlying T) v lo hi:=nr rfl
def slZ (a:Option (Nat×Nat)) (s:Option Nat) (c:Nat) (p:Option (Nat×Nat)):Option Value :=
 match s with
 | some s=>slV a s c p
 | none=>none
@[simp] theorem jgn (a:Option (Nat×Nat)) (s c:Nat) (p:Option (Nat×Nat)):slZ a (some s) c p=slV a s c p:=nr rfl
@[simp] theorem jjg (n:Nat) (e:TypeId) (k off:Nat) (lo hi:Option Value):slU P (some (.array n e)) (.pointer (some ⟨k,off,none⟩)) lo hi=slZ (some (k,off)) (zas P e) n (zdz n n lo hi):=nr rfl
@[simp] theorem jdn (e:TypeId) (k off n c:Nat) (lo hi:Option Value):slU P (some (.slice e)) (.slice (some ⟨k,off,none⟩) n c) lo hi=slZ (some (k,off)) (zas P e) c (zdz n c lo hi):=nr rfl
@[simp] theorem jgm (k off s c l h:Nat):slV (some (k,off)) s c (some (l,h))=some (.slice (some ⟨k,if c=l then off else off+l*s,none⟩) (h - l) (c - l)):=nr rfl
@[simp] theorem je1 (len cap:Nat) (k:IntKind) (m:Int):hiG len cap (some (.int k m))=if 0<=m/\m<=cap then some m.toNat else none:=nr rfl
@[simp] theorem jfs (h:Nat):loG h none=some 0:=nr rfl
def z3w (lo:Option Value) (h:Option Nat):Option (Nat×Nat) :=
 match h with
 | none=>none
 | some h=>(loG h lo).map λl=>(l,h)
@[simp] theorem jdo (len cap:Nat) (lo hi:Option Value):zdz len cap lo hi=z3w lo (hiG len cap hi):=nr rfl
@[simp] theorem z66 (lo:Option Value) (h:Nat):z3w lo (some h)=(loG h lo).map λl=>(l,h):=nr rfl
@[simp ↓] theorem jix (T:TypeId) (x:Operand):opX P G V yc ⟨dst,.sliceToArrayPointer T x,type,pos,after,guard⟩ ts hp nk C=(okX ts hp x/\zmp.unX' (z7u P T (gev ts x)) C):=by
 simp only [opX]
 cases z7u P T (gev ts x)<;>rfl
def jj5 (u:Option TypeDesc) (v:Value):Option Value :=
 match u with
 | some (.array n _)=>match v with
  | .slice a len _=>if n<=len then some (.pointer a) else none
  | _=>none
 | _=>none
@[simp] theorem jg6 (T:TypeId) (v:Value):z7u P T v=jj5 (P.underlying T) v:=nr rfl
@[simp] theorem jej (n:Nat) (e:TypeId) (a:Option Addr) (len c:Nat):jj5 (some (.array n e)) (.slice a len c)=if n<=len then some (.pointer a) else none:=nr rfl
def jk3 (u:Option TypeDesc) (v:Value):Option Value :=
 match u with
 | some .string=>match v with
  | .string s=>some (.int .i64 s.size)
  | _=>none
 | some (.array n _)=>some (.int .i64 n)
 | some (.slice _)=>match v with
  | .slice _ n _=>some (.int .i64 n)
  | _=>none
 | _=>none
@[simp] theorem jif (T:TypeId) (v:Value):z8o P T v=jk3 (P.underlying T) v:=nr rfl
@[simp] theorem z8n (e:TypeId) (a:Option Addr) (n c:Nat):jk3 (some (.slice e)) (.slice a n c)=some (.int .i64 n):=nr rfl
@[simp ↓] theorem ji0 (x:Operand) (T:TypeId):opX P G V yc ⟨dst,.call ⟨.builtin .len,#[x],#[T]⟩,type,pos,after,guard⟩ ts hp nk C=(okX ts hp x/\zmp.unX' (z8o P T (gev ts x)) C):=by
 simp only [opX,zr9,zj7]
 simp
 intro _
 cases z8o P T (gev ts x)<;>rfl
@[simp] theorem jin (k k':IntKind) (a c:Int):zpo true (.int k a) (.int k' c)=some (.int k (if a<c then c else a)):=nr rfl
@[simp] theorem jim (k k':IntKind) (a c:Int):zpo false (.int k a) (.int k' c)=some (.int k (if c<a then c else a)):=nr rfl
def jk4 (b:Bool) (z:Option Value) (l:List Value):Option Value :=
 match z with
 | some z=>zos b z l
 | none=>none
@[simp] theorem jca (b:Bool) (z:Value) (l:List Value):jk4 b (some z) l=zos b z l:=nr rfl
@[simp] theorem jfw (b:Bool) (k:IntKind) (a:Int):zos b (.int k a) []=some (.int k a):=nr rfl
@[simp] theorem jb8 (b:Bool) (x y:Value) (l:List Value):zos b x (y::l)=jk4 b (zpo b x y) l:=nr rfl
@[simp] theorem jb9 (b:Bool) (x:Value) (l:List Value):zwf b (x::l)=zos b x l:=nr rfl
@[simp ↓] theorem ji1 (l:List Operand) (T:Array TypeId):opX P G V yc ⟨dst,.call ⟨.builtin .max,l.toArray,T⟩,type,pos,after,guard⟩ ts hp nk C=((∀ x∈l,okX ts hp x)/\zmp.unX' (zwf true (zyf ts l.toArray)) C):=by
 simp only [opX,zr9,zj7,zyf]
 cases zwf true (l.map (gev ts))<;>rfl
@[simp ↓] theorem ji2 (l:List Operand) (T:Array TypeId):opX P G V yc ⟨dst,.call ⟨.builtin .min,l.toArray,T⟩,type,pos,after,guard⟩ ts hp nk C=((∀ x∈l,okX ts hp x)/\zmp.unX' (zwf false (zyf ts l.toArray)) C):=by
 simp only [opX,zr9,zj7,zyf]
 cases zwf false (l.map (gev ts))<;>rfl
def pnX (v:Value) (C:Eff->Prop):Prop :=
 match v with
 | .iface T u=>C ⟨zcj,[],[],[],some (.iface T u),false⟩
 | _=>False
@[simp ↓] theorem jcq (x:Operand):opX P G V yc ⟨dst,.panic x,type,pos,after,guard⟩ ts hp nk C=(okX ts hp x/\zau (gev ts x)=true/\pnX (gev ts x) C):=nr rfl
@[simp] theorem jc2 (T:TypeId) (u:Value):pnX (.iface T u) C=C ⟨zcj,[],[],[],some (.iface T u),false⟩:=nr rfl
@[congr] theorem jc1 {v v':Value} (h:v=v'):pnX v C=pnX v' C:=by rw [h]
@[simp] theorem jgc (v:Value):(Out.ret v).eff=val v []:=nr rfl
@[simp] theorem jgb (v:Value):(Out.pan v).eff=⟨zcj,[],[],[],some v,false⟩:=nr rfl
@[simp ↓] theorem z3f (fn:Fn) (first cap:Array Operand):opX P G V yc ⟨dst,.makeFunc fn first cap,type,pos,after,guard⟩ ts hp nk C =
 ((∀ x∈first.toList,okX ts hp x/\zbj (gev ts x)=true)/\(∀ x∈cap.toList,okX ts hp x/\zbj (gev ts x)=true)/\C (val (.func fn (first.map (gev ts)) (cap.map (gev ts))) [])):=nr rfl
def z4o (P:Program) (v:Option Value) (o:Oper) (ts:Nat->Value) (hp:Hp) (C:Eff->Prop):Prop :=
 match v with
 | some v=>C (val v [])
 | none=>ztb P o ts hp λv=>C (val v [])
@[simp] theorem z9z (v:Value) (o:Oper):z4o P (some v) o ts hp C=C (val v []):=nr rfl
@[simp ↓] theorem jiy (op:BinOp) (T yT:TypeId) (x y:Operand):opX P G V yc ⟨dst,.binOp op T x y yT,type,pos,after,guard⟩ ts hp nk C =
 (okX ts hp x/\okX ts hp y/\z4o P (zm4 P op T (gev ts x) (gev ts y)) ⟨dst,.binOp op T x y yT,type,pos,after,guard⟩ ts hp C):=nr rfl
def unX (v:Option Value) (C:Eff->Prop):Prop :=
 match v with
 | some v=>C (val v [])
 | none=>False
@[simp] theorem jgu (v:Value):unX (some v) C=C (val v []):=nr rfl
@[simp ↓] theorem jla (op:UnOp) (T:TypeId) (x:Operand):opX P G V yc ⟨dst,.unOp op T x,type,pos,after,guard⟩ ts hp nk C=(okX ts hp x/\unX (un1 op (gev ts x)) C):=nr rfl
@[simp ↓] theorem jf7 (S T:TypeId) (x:Operand):opX P G V yc ⟨dst,.convert S T x,type,pos,after,guard⟩ ts hp nk C=(okX ts hp x/\z4o P (zll P S T (gev ts x)) ⟨dst,.convert S T x,type,pos,after,guard⟩ ts hp C):=nr rfl
@[simp] theorem jiv (t:Tmp):okT ts (.tmp t)=nj (ts t):=nr rfl
@[simp] theorem jf4 (f:FuncId):okT ts (.func f)=True:=nr rfl
def zj1 (b:Bool) (x y:Prop):Prop :=
 match b with
 | true=>x
 | false=>y
@[simp] theorem zs7 (x y:Prop):zj1 true x y=x:=nr rfl
@[simp] theorem z6r (x y:Prop):zj1 false x y=y:=nr rfl
@[congr] theorem z6q {b b':Bool} {x y:Prop} (h:b=b'):zj1 b x y=zj1 b' x y:=by rw [h]
def zm2 (l:List Value):Array Value:=l.toArray
@[simp] theorem jei (l:List Value):zm2 l=l.toArray:=nr rfl
def zi6 (P:Program) (G:Hp) (V:XV) (nk yc:Nat) (ts:Nat->Value) (hp:Hp) (v:Value) (args:Array Operand) (C:Eff->Prop):Prop:=zhw P G V nk yc ts hp v args C
@[congr] theorem z2j {v v':Value} {args:Array Operand} (h:v=v'):zi6 P G V nk yc ts hp v args C=zi6 P G V nk yc ts hp v' args C:=by rw [h]
def zm7 (P:Program) (G:Hp) (V:XV) (nk:Nat) (hp:Hp) (g:FuncId) (l:List Value) (cap:List Value) (C:Eff->Prop):Prop :=
 zj1 (cap.isEmpty&&!V.pn.contains g&&l.all zau) (zj1 (V.pn.contains (g+1000000)) (zo4 P G g (zm2 l) C) (zbe P G g (zm2 l) (zy8 C))) (cap.all zbj=true/\zhz P G g (zm2 (l++cap)) hp nk C)
@[congr] theorem z2l {g:FuncId} {l l' cap cap':List Value} (h:l=l') (h':cap=cap'):zm7 P G V nk hp g l cap C=zm7 P G V nk hp g l' cap' C:=by rw [h,h']
@[simp] theorem z93 (g:FuncId) (l cap:List Value):zm7 P G V nk hp g l cap C=zj1 (cap.isEmpty&&!V.pn.contains g&&l.all zau) (zj1 (V.pn.contains (g+1000000)) (zo4 P G g (zm2 l) C) (zbe P G g (zm2 l) (zy8 C))) (cap.all zbj=true/\zhz P G g (zm2 (l++cap)) hp nk C):=nr rfl
@[simp] theorem z4t (g:FuncId) (args:List Operand) (capv:List Value):zi6 P G V nk yc ts hp (.func (.func g) #[] capv.toArray) args.toArray C=((∀ x∈args,okX ts hp x)/\zm7 P G V nk hp g (zyf ts args.toArray) capv C):=by
 have e:(Array.map (gev ts) args.toArray)=(args.map (gev ts)).toArray:=by simp
 have ea:((args.map (gev ts)).toArray++capv.toArray)=(args.map (gev ts)++capv).toArray:=by simp
 unfold zi6 zhw zm7 zy8 zyf zm2
 simp only [e,ea,List.size_toArray,List.length_nil,true_and]
 congr 1
 by_cases h:capv=[]/\V.pn.contains g=false/\(args.map (gev ts)).all zau=true
 ·obtain ⟨h1,h2,h3⟩:=h
  subst h1
  have h4:(args.map (gev ts)).toArray.all zau=true:=by simpa using h3
  rw [if_pos ⟨rfl,h2,h4⟩]
  simp only [List.isEmpty_nil,h2,h3,Bool.not_false,Bool.and_self,zs7]
  cases V.pn.contains (g+1000000)<;>simp [zj1]
 ·rw [if_neg (by
   rintro ⟨h1,h2,h3⟩
   exact h ⟨List.eq_nil_of_length_eq_zero h1,h2,by simpa using h3⟩)]
  have hb:(capv.isEmpty&&!V.pn.contains g&&(args.map (gev ts)).all zau)=false:=by
   cases hb:(capv.isEmpty&&!V.pn.contains g&&(args.map (gev ts)).all zau) with
   | false=>rfl
   | true =>
    simp only [Bool.and_eq_true,List.isEmpty_iff,Bool.not_eq_true'] at hb
    exact absurd ⟨hb.1.1,hb.1.2,hb.2⟩ h
  simp only [hb,zj1]
  simp
def zik (Y:Option YG) (yc l:Nat) (hp:Hp) (args:List Value) (C:Eff->Prop):Prop:=zk7 Y yc l hp args.toArray C
theorem zyu {y:YG} (h:y.sh=none) (l:List Value):l.toArray.map y.act=l.toArray:=by
 have:y.act=id:=by funext v;unfold YG.act;rw [h];rfl
 rw [this]
 simp
@[simp] theorem z7o (l':Nat) (xs:List (Array Value)) (st l:Nat) (args:List Value):zik (some ⟨l',xs,st,none,none⟩) yc l hp args C=(l=l'/\yc<=st/\(∀ v∈args,zau v=true)/\xs[yc]? = some args.toArray/\C ⟨.bool (yc != st),[],[],[],none,true⟩):=by
 have:(YG.mk l' xs st none none).pan yc=none:=by unfold YG.pan;split<;>rfl
 simp only [zik,zk7,zrs,this,zyu,YG.arg,YG.lies,true_and]
def shX (hp:Hp) (s:Sh) (xs:Option (Array Value)) (yc st:Nat) (args:List Value) (C:Eff->Prop):Prop :=
 (∀ v∈args,zou s.w v=true)/\xs=some (args.toArray.map (ren λ_=>s.a))/\(hp s.w=some (s.ob yc)/\100<=s.w)/\C ⟨.bool (yc != st),[s.w],[(s.w,s.ob (yc+1))],[],none,true⟩
@[simp] theorem jec (l':Nat) (xs:List (Array Value)) (st l:Nat) (s:Sh) (args:List Value):zik (some ⟨l',xs,st,none,some s⟩) yc l hp args C=(l=l'/\yc<=st/\shX hp s xs[yc]? yc st args C):=by
 have:(YG.mk l' xs st none (some s)).pan yc=none:=by unfold YG.pan;split<;>rfl
 have e:(YG.mk l' xs st none (some s)).act=ren λ_=>s.a:=by funext v;rfl
 simp only [zik,zk7,zrs,this,YG.arg,YG.lies,e,shX,and_true]
def jeb (b:Bool) (pv:Value):Eff:=if b then ⟨zcj,[],[],[],some pv,true⟩ else ⟨.bool true,[],[],[],none,true⟩
def yC (C:Eff->Prop) (b:Bool) (pv:Value):Prop:=C (jeb b pv)
@[congr] theorem jg0 {b b':Bool} {pv:Value} (h:b=b'):yC C b pv=yC C b' pv:=by rw [h]
@[congr] theorem z33 {Y Y':Option YG} {yc' l:Nat} {args args':List Value} (h0:Y=Y') (h1:yc=yc') (h:args=args'):zik Y yc l hp args C=zik Y' yc' l hp args' C:=by rw [h0,h1,h]
@[simp] theorem z2k (l:Nat) (args:List Operand):zi6 P G V nk yc ts hp (.func (.yield l) #[] #[]) args.toArray C=((∀ x∈args,okT ts x)/\zik V.Y yc l hp (zyf ts args.toArray) C):=by
 have e:(Array.map (gev ts) args.toArray)=(args.map (gev ts)).toArray:=by simp
 unfold zi6 zhw zik zyf
 simp only [e,List.size_toArray,List.length_nil,true_and]
@[simp ↓] theorem jf6 (f:Operand) (args:Array Operand) (argTypes:Array TypeId):opX P G V yc ⟨dst,.call ⟨.value f,args,argTypes⟩,type,pos,after,guard⟩ ts hp nk C=(okT ts f/\zi6 P G V nk yc ts hp (gev ts f) args C):=nr rfl
@[congr] theorem z4s {f f':FuncId} {args args':Array Value} (hf:f=f') (h:args=args'):zo4 P G f args C=zo4 P G f' args' C:=by rw [hf,h]
@[congr] theorem z4r {f f':FuncId} {args args':Array Value} {K:Value->Prop} (hf:f=f') (h:args=args'):zbe P G f args K=zbe P G f' args' K:=by rw [hf,h]
@[simp ↓] theorem jco (T:TypeId) (x:Operand):opX P G V yc ⟨dst,.makeInterface T x,type,pos,after,guard⟩ ts hp nk C=(okX ts hp x/\zbj (gev ts x)=true/\z23 (P.underlying T) T (gev ts x) C):=nr rfl
def bsX (o:Option (Array Value)) (e:TypeId) (len nk:Nat) (C:Eff->Prop):Prop :=
 match o with
 | some cs=>C ⟨.slice (some ⟨nk,0,none⟩) len len,[],[],[(nk,⟨cs,e⟩)],none,false⟩
 | none=>False
@[simp] theorem jer (cs:Array Value) (e:TypeId) (len:Nat):bsX (some cs) e len nk C=C ⟨.slice (some ⟨nk,0,none⟩) len len,[],[],[(nk,⟨cs,e⟩)],none,false⟩:=nr rfl
def buX (pl:Option (List (Nat×Nat) ⊕ Nat)) (z:Value) (parts:List (Nat×Value)) (C:Eff->Prop):Prop :=
 match pl with
 | some pl=>unX ((zfo pl z.cells parts).map .agg) C
 | none=>False
@[simp] theorem zy7 (pl:List (Nat×Nat) ⊕ Nat) (z:Value) (parts:List (Nat×Value)):buX (some pl) z parts C=unX ((zfo pl z.cells parts).map .agg) C:=nr rfl
def zm6 (P:Program) (T:TypeId) (z:Option Value) (parts:List (Nat×Value)) (C:Eff->Prop):Prop :=
 match z with
 | some z=>za1 z=true/\zau z=true/\buX (zbf P T) z parts C
 | none=>False
@[simp] theorem z4q (T:TypeId) (z:Value) (parts:List (Nat×Value)):zm6 P T (some z) parts C=(za1 z=true/\zau z=true/\buX (zbf P T) z parts C):=nr rfl
@[simp ↓] theorem jcl (T:TypeId) (parts:Array (Nat×Operand)):opX P G V yc ⟨dst,.build T parts,type,pos,after,guard⟩ ts hp nk C =
  ((∀ p∈parts.toList,okX ts hp p.2/\za1 (gev ts p.2)=true)/\zm6 P T (zbd P T) (zdp ts parts) C):=by
 unfold opX zm6
 simp only
 cases hz:zbd P T with
 | none=>rfl
 | some z =>
  simp only
  cases hp:zbf P T with
  | none=>rfl
  | some pl =>
   simp only [zy7]
   cases hf:zfo pl z.cells (zdp ts parts)<;>rfl
@[simp] theorem jcy (parts:Array (Nat×Operand)):zdp ts parts=parts.toList.map λp=>(p.1,gev ts p.2):=nr rfl
@[simp] theorem jge (m i:Nat):z1a (.inr m) i=some (i*m,m):=nr rfl
@[simp] theorem jgd (l:List (Nat×Nat)) (i:Nat):z1a (.inl l) i=l[i]?:=nr rfl
@[simp] theorem jaq (pl:List (Nat×Nat) ⊕ Nat) (cells:Array Value):zfo pl cells []=some cells:=nr rfl
def jar (pl:List (Nat×Nat) ⊕ Nat) (cells:Array Value) (os:Option (Nat×Nat)) (v:Value) (rest:List (Nat×Value)):Option (Array Value) :=
 match os with
 | none=>none
 | some (off,size)=>if v.cells.size=size/\off+v.cells.size<=cells.size then zfo pl (zcg cells off v.cells.toList) rest else none
@[simp] theorem z73 (pl:List (Nat×Nat) ⊕ Nat) (cells:Array Value) (off size:Nat) (v:Value) (rest:List (Nat×Value)):jar pl cells (some (off,size)) v rest=if v.cells.size=size/\off+v.cells.size<=cells.size then zfo pl (zcg cells off v.cells.toList) rest else none:=nr rfl
@[simp] theorem z72 (pl:List (Nat×Nat) ⊕ Nat) (cells:Array Value) (i:Nat) (v:Value) (rest:List (Nat×Value)):zfo pl cells ((i,v)::rest)=jar pl cells (z1a pl i) v rest:=nr rfl

@[congr] theorem z8p {base:Nat} {Q:QQ} {seen:List (Option Tmp)} {k k':Nat} {l:List Oper} {ts':Nat->Value} {hp':Hp} {tr tr':Tr} {yc':Nat} {wr wr' yd yd':Bool} (h1:k=k') (h2:ts=ts') (h3:hp=hp') (h4:tr=tr') (h5:yc=yc') (h6:wr=wr') (h7:yd=yd') :
  ziy P G V base Q seen k l ts hp tr yc wr yd=ziy P G V base Q seen k' l ts' hp' tr' yc' wr' yd':=by rw [h1,h2,h3,h4,h5,h6,h7]
@[congr] theorem z1t {seen:List (Option Tmp)} {k k':Nat} {o:Oper} (h1:k=k'):zfc seen k o ts=zfc seen k' o ts:=by rw [h1]
@[congr] theorem jcm {o:Oper} {ts':Nat->Value} {hp':Hp} {nk':Nat} (h2:ts=ts') (h3:hp=hp') (h4:nk=nk'):opX P G V yc o ts hp nk C=opX P G V yc o ts' hp' nk' C:=by rw [h2,h3,h4]
@[congr] theorem z9i {w w':Option Bool} {a b:Prop} (h:w=w'):z9h w a b=z9h w' a b:=by rw [h]
@[congr] theorem z6s {v v':Value} {x y:Operand} (h:v=v'):z09 ts hp v x y C=z09 ts hp v' x y C:=by rw [h]
@[congr] theorem z2e {z z':Option Value} {nk':Nat} {T:TypeId} (h:z=z') (h1:nk=nk'):zqd z nk T C=zqd z' nk' T C:=by rw [h,h1]
@[congr] theorem z28 {v v':Option Value} {k k':Nat} (h:v=v') (h1:k=k'):znz v k C=znz v' k' C:=by rw [h,h1]
@[congr] theorem z27 {T:TypeId} {b b':Option Blk} {k off k' off':Nat} (h:b=b') (h1:k=k') (h2:off=off'):zny P T b k off C=zny P T b' k' off' C:=by rw [h,h1,h2]
@[congr] theorem z5y {T:TypeId} {v v':Value} (h:v=v'):z0m P T hp v C=z0m P T hp v' C:=by rw [h]
@[congr] theorem z1i {T:TypeId} {b b':Option Blk} {k off k' off':Nat} {w w':Value} (h:b=b') (h1:k=k') (h2:off=off') (h3:w=w'):zjr P T b k off w C=zjr P T b' k' off' w' C:=by rw [h,h1,h2,h3]
@[congr] theorem z3y {T:TypeId} {v v' w w':Value} (h:v=v') (h1:w=w'):zrf P T hp v w C=zrf P T hp v' w' C:=by rw [h,h1]
@[congr] theorem zvf {v v':Option Value} (h:v=v'):zfm v C=zfm v' C:=by rw [h]
@[congr] theorem zya {v v':Value} {i:Nat} (h:v=v'):zis v i C=zis v' i C:=by rw [h]
@[congr] theorem z5p {s s':Option Nat} {k k' off off':Nat} {m m':Int} (h:s=s') (h1:k=k') (h2:off=off') (h3:m=m'):zpe s k off m C=zpe s' k' off' m' C:=by rw [h,h1,h2,h3]
@[congr] theorem z5q {v v':Value} {len:Nat} {e:TypeId} {m m':Int} (h:v=v') (h1:m=m'):zvx P v len e m C=zvx P v' len e m' C:=by rw [h,h1]
@[congr] theorem z5r {v v':Value} {e:TypeId} {m m':Int} (h:v=v') (h1:m=m'):zvy P v e m C=zvy P v' e m' C:=by rw [h,h1]
@[congr] theorem z8j {u u':Option TypeDesc} {v v':Value} {m m':Int} (h0:u=u') (h:v=v') (h1:m=m'):z8g P u v m C=z8g P u' v' m' C:=by rw [h,h1,h0]
@[congr] theorem z5o {T:TypeId} {i i' v v':Value} (h:i=i') (h1:v=v'):zz8 P T i v C=zz8 P T i' v' C:=by rw [h,h1]
@[congr] theorem z7v {o:Oper} {v v':Option Value} (h:v=v'):z4o P v o ts hp C=z4o P v' o ts hp C:=by rw [h]
@[congr] theorem jd3 {v v':Option Value} (h:v=v'):unX v C=unX v' C:=by rw [h]
@[congr] theorem z5c {f:FuncId} {args args':Array Value} (h:args=args'):zhz P G f args hp nk C=zhz P G f args' hp nk C:=by rw [h]
@[congr] theorem z90 {o o':Option (Array Value)} {e:TypeId} {len nk':Nat} (h:o=o') (h1:nk=nk'):bsX o e len nk C=bsX o' e len nk' C:=by rw [h,h1]
@[congr] theorem z91 {pl pl':Option (List (Nat×Nat) ⊕ Nat)} {z z':Value} {parts parts':List (Nat×Value)} (h:pl=pl') (h1:z=z') (h2:parts=parts'):buX pl z parts C=buX pl' z' parts' C:=by rw [h,h1,h2]
@[congr] theorem z2i {T:TypeId} {z z':Option Value} {parts parts':List (Nat×Value)} (h1:z=z') (h2:parts=parts'):zm6 P T z parts C=zm6 P T z' parts' C:=by rw [h1,h2]

@[simp] theorem jel (op:BinOp) (T:TypeId) (k k':IntKind) (a b:Int):zm4 P op T (.int k a) (.int k' b)=zlt op k a k' b:=nr rfl
@[simp] theorem zy2 (T:TypeId) (a b:Bool):zm4 P .eql T (.bool a) (.bool b)=if zlh P T then some (.bool (a==b)) else none:=nr rfl
@[simp] theorem zy3 (T:TypeId) (a b:Bool):zm4 P .neq T (.bool a) (.bool b)=if zlh P T then some (.bool (a != b)) else none:=nr rfl
def zr6 (r:Option Bool) (neg:Bool):Option Value :=
 match r with
 | some r=>some (.bool (if neg then !r else r))
 | none=>none
@[simp] theorem jg7 (r:Bool):zr6 (some r) false=some (.bool r):=nr rfl
@[simp] theorem jg8 (r:Bool):zr6 (some r) true=some (.bool !r):=nr rfl
@[simp] theorem z2g (T:TypeId) (a b:Array Value):zm4 P .eql T (.agg a) (.agg b)=zr6 (zyv P T a b) false:=by unfold zm4 zr6;simp only;split<;>simp_all
@[simp] theorem z2h (T:TypeId) (a b:Array Value):zm4 P .neq T (.agg a) (.agg b)=zr6 (zyv P T a b) true:=by unfold zm4 zr6;simp only;split<;>simp_all
@[simp] theorem jg1 (T:TypeId) (xs ys:Array Value):zyv P T xs ys=zr2 P T (zt0 P T) (zf4 P T) xs ys:=nr rfl
def z9x (n:Option Nat) (xs ys:Array Value):Option Bool :=
 match n with
 | some n=>if xs.size=n/\ys.size=n then zt1 xs.toList ys.toList else none
 | none=>none
@[simp] theorem jg5 (T:TypeId) (xs ys:Array Value):ztz P T xs ys=z9x (zt0 P T) xs ys:=nr rfl
@[simp] theorem z7t (n:Nat) (xs ys:Array Value):z9x (some n) xs ys=if xs.size=n/\ys.size=n then zt1 xs.toList ys.toList else none:=nr rfl
@[simp] theorem z7s (T:TypeId) (n:Nat) (st:Option (List (TypeId×Nat))) (xs ys:Array Value):zr2 P T (some n) st xs ys=ztz P T xs ys:=nr rfl
@[simp] theorem jeh (T:TypeId) (l:List (TypeId×Nat)) (xs ys:Array Value):zr2 P T none (some l) xs ys=if (xs.all za9&&ys.all za9)=true then zzr P xs ys l else none:=nr rfl
def jhf (a b:Option Bool):Option Bool :=
 match a,b with
 | some a,some b=>some (a&&b)
 | _,_=>none
@[simp] theorem jal (a b:Bool):jhf (some a) (some b)=some (a&&b):=nr rfl
@[simp] theorem jew (xs ys:Array Value):zzr P xs ys []=some true:=nr rfl
@[simp] theorem jam (T off:Nat) (fs:List (TypeId×Nat)) (xs ys:Array Value):zzr P xs ys ((T,off)::fs)=jhf (ja1 P T off xs ys) (zzr P xs ys fs):=nr rfl
def jhn (P:Program) (T off:Nat) (n:Option Nat) (xs ys:Array Value):Option Bool :=
 match n with
 | some n=>if off+n<=xs.size/\off+n<=ys.size then ztz P T (xs.extract off (off+n)) (ys.extract off (off+n)) else none
 | none=>if zz9 P T=true then match xs[off]?,ys[off]? with
   | some (.int k a),some (.int k' b)=>if k=k' then some (a==b) else none
   | _,_=>none
  else ja2 P (snF P T) off xs ys
@[simp] theorem ja3 (l:List (TypeId×Nat)) (m off:Nat) (xs ys:Array Value):ja2 P (some (l,m)) off xs ys=if off+m<=xs.size/\off+m<=ys.size then zx8 P (xs.extract off (off+m)) (ys.extract off (off+m)) l else none:=nr rfl
@[simp] theorem jev (xs ys:Array Value):zx8 P xs ys []=some true:=nr rfl
@[simp] theorem jak (T off:Nat) (fs:List (TypeId×Nat)) (xs ys:Array Value):zx8 P xs ys ((T,off)::fs)=jhf (jaz P T off xs ys) (zx8 P xs ys fs):=nr rfl
def ja0 (P:Program) (T off:Nat) (n:Option Nat) (xs ys:Array Value):Option Bool :=
 match n with
 | some n=>if off+n<=xs.size/\off+n<=ys.size then ztz P T (xs.extract off (off+n)) (ys.extract off (off+n)) else none
 | none=>if zz9 P T=true then match xs[off]?,ys[off]? with
   | some (.int k a),some (.int k' b)=>if k=k' then some (a==b) else none
   | _,_=>none
  else none
@[simp] theorem jhl (T off:Nat) (xs ys:Array Value):jaz P T off xs ys=ja0 P T off (zx7 P T) xs ys:=nr rfl
@[simp] theorem z77 (T off n:Nat) (xs ys:Array Value):ja0 P T off (some n) xs ys=if off+n<=xs.size/\off+n<=ys.size then ztz P T (xs.extract off (off+n)) (ys.extract off (off+n)) else none:=nr rfl
@[simp] theorem jhm (T off:Nat) (xs ys:Array Value):ja1 P T off xs ys=jhn P T off (zx7 P T) xs ys:=nr rfl
@[simp] theorem ja5 (T off n:Nat) (xs ys:Array Value):jhn P T off (some n) xs ys=if off+n<=xs.size/\off+n<=ys.size then ztz P T (xs.extract off (off+n)) (ys.extract off (off+n)) else none:=nr rfl
def jk2 (a b:Option Value):Option Bool :=
 match a,b with
 | some (.int k a),some (.int k' b)=>if k=k' then some (a==b) else none
 | _,_=>none
@[simp] theorem jbn (k k':IntKind) (a b:Int):jk2 (some (.int k a)) (some (.int k' b))=if k=k' then some (a==b) else none:=nr rfl
@[simp] theorem ja4 (T off:Nat) (xs ys:Array Value):jhn P T off none xs ys=if zz9 P T=true then jk2 xs[off]? ys[off]? else ja2 P (snF P T) off xs ys:=nr rfl
@[simp] theorem jex:zt1 [] []=some true:=nr rfl
def jj4 (b:Bool) (r:Option Bool):Option Bool :=
 match r with
 | some r=>some (b&&r)
 | none=>none
@[simp] theorem z9u (b r:Bool):jj4 b (some r)=some (b&&r):=nr rfl
@[simp] theorem jan (k k':IntKind) (a b:Int) (xs ys:List Value):zt1 (.int k a::xs) (.int k' b::ys)=if k=k' then jj4 (a==b) (zt1 xs ys) else none:=nr rfl
@[simp] theorem jfa (k k':IntKind) (a b:Int):zlt .add k a k' b=if k=k' then some (.int k (k.wrap (a+b))) else none:=nr rfl
@[simp] theorem jfn (k k':IntKind) (a b:Int):zlt .sub k a k' b=if k=k' then some (.int k (k.wrap (a - b))) else none:=nr rfl
@[simp] theorem jfh (k k':IntKind) (a b:Int):zlt .mul k a k' b=if k=k' then some (.int k (k.wrap (a*b))) else none:=nr rfl
@[simp] theorem jfj (k k':IntKind) (a b:Int):zlt .quo k a k' b=if k=k' then if b=0 then none else some (.int k (k.wrap (a.tdiv b))) else none:=nr rfl
@[simp] theorem jfk (k k':IntKind) (a b:Int):zlt .rem k a k' b=if k=k' then if b=0 then none else some (.int k (a.tmod b)) else none:=nr rfl
@[simp] theorem jfl (k k':IntKind) (a b:Int):zlt .shl k a k' b=if 0<=b then some (.int k (k.wrap (a*2^min b.toNat k.bits))) else none:=nr rfl
@[simp] theorem jfm (k k':IntKind) (a b:Int):zlt .shr k a k' b=if 0<=b then some (.int k (a.fdiv (2^min b.toNat k.bits))) else none:=nr rfl
@[simp] theorem jfb (k k':IntKind) (a b:Int):zlt .and k a k' b=if k=k' then some (.int k (zdr .and k a b)) else none:=nr rfl
@[simp] theorem jia (k k':IntKind) (a b:Int):zlt .or k a k' b=if k=k' then some (.int k (zdr .or k a b)) else none:=nr rfl
@[simp] theorem jfc (k k':IntKind) (a b:Int):zlt .eql k a k' b=if k=k' then some (.bool (a==b)) else none:=nr rfl
@[simp] theorem jfi (k k':IntKind) (a b:Int):zlt .neq k a k' b=if k=k' then some (.bool (a != b)) else none:=nr rfl
@[simp] theorem jfg (k k':IntKind) (a b:Int):zlt .lss k a k' b=if k=k' then some (.bool (a<b)) else none:=nr rfl
@[simp] theorem jff (k k':IntKind) (a b:Int):zlt .leq k a k' b=if k=k' then some (.bool (a<=b)) else none:=nr rfl
@[simp] theorem jfe (k k':IntKind) (a b:Int):zlt .gtr k a k' b=if k=k' then some (.bool (b<a)) else none:=nr rfl
@[simp] theorem jfd (k k':IntKind) (a b:Int):zlt .geq k a k' b=if k=k' then some (.bool (b<=a)) else none:=nr rfl
@[simp] theorem jjo (k:IntKind) (a:Int):un1 .neg (.int k a)=some (.int k (k.wrap (0 - a))):=nr rfl
@[simp] theorem jjp (b:Bool):un1 .not (.bool b)=some (.bool !b):=nr rfl
@[simp] theorem jjq (k:IntKind) (a:Int):un1 .xor (.int k a)=some (.int k (zdr .xor k (if k.signed then -1 else k.max) a)):=nr rfl
def z4z (s t:Option TypeDesc) (n:Int):Option Value :=
 match s,t with
 | some _,some (.int k)=>some (.int k (k.wrap n))
 | _,_=>none
@[simp] theorem jac (s:TypeDesc) (k:IntKind) (n:Int):z4z (some s) (some (.int k)) n=some (.int k (k.wrap n)):=nr rfl
@[simp] theorem jab (S T:TypeId) (k:IntKind) (n:Int):zll P S T (.int k n)=z4z (P.underlying S) (P.underlying T) n:=by
 unfold zll z4z
 cases hs:P.underlying S with
 | none=>rfl
 | some s =>
  cases ht:P.underlying T with
  | none=>rfl
  | some d=>cases d<;>rfl

@[simp] theorem jbp (l:List Oper) (ts:Nat->Value) (t:Nat):zhe l ts t=if l.any (λo=>o.dst==some t) then zcj else ts t:=nr rfl
def z1d (v:Value):Option Value:=if zde v then some v else none
def jgh (v:Option Value):Option Value :=
 match v with
 | some v=>z1d v
 | none=>none
@[simp] theorem jdg (v:Value):jgh (some v)=z1d v:=nr rfl
@[simp] theorem jdd (t:Tmp):zl2 P ts hp (.tmp t)=z1d (ts t):=nr rfl
def z1c (P:Program) (T:TypeId) (b:Option Blk) (off:Nat):Option Value :=
 match b with
 | some b=>jgh (zc2 P T b off)
 | none=>none
@[simp] theorem z85 (T:TypeId) (b:Blk) (off:Nat):z1c P T (some b) off=jgh (zc2 P T b off):=nr rfl
def jja (P:Program) (T:TypeId) (hp:Hp) (v:Value):Option Value :=
 match v with
 | .pointer (some ⟨k,off,none⟩)=>z1c P T (hp k) off
 | _=>none
@[simp] theorem jgg (T:TypeId) (k off:Nat):jja P T hp (.pointer (some ⟨k,off,none⟩))=z1c P T (hp k) off:=nr rfl
@[simp] theorem z86 (t:Tmp) (T:TypeId):zl2 P ts hp (.cell t T)=jja P T hp (ts t):=by
 unfold zl2 jja
 simp only
 split
 ·unfold z1c
  split
  ·unfold jgh z1d;split<;>simp_all
  ·simp_all
 ·simp_all
@[simp] theorem jdh (b:Bool):z1d (.bool b)=some (.bool b):=nr rfl
@[simp] theorem jgj (k:IntKind) (n:Int):z1d (.int k n)=some (.int k n):=nr rfl
@[simp] theorem jgi (cs:Array Value):z1d (.agg cs)=some (.agg cs):=nr rfl
@[simp] theorem jdi (f:Fn) (a b:Array Value):z1d (.func f a b)=some (.func f a b):=nr rfl
@[simp] theorem z6w (s:ByteArray):z1d (.string s)=some (.string s):=nr rfl
def jli (v:Option Value) (r:Option (List Value)):Option (List Value) :=
 match v,r with
 | some v,some vs=>some (v::vs)
 | _,_=>none
@[simp] theorem jdf (v:Value) (vs:List Value):jli (some v) (some vs)=some (v::vs):=nr rfl
@[simp] theorem jde:zin P ts hp []=some []:=nr rfl
@[simp] theorem z87 (x:ResultVar) (l:List ResultVar):zin P ts hp (x::l)=jli (zl2 P ts hp x) (zin P ts hp l):=by
 simp only [zin]
 cases h1:zl2 P ts hp x with
 | none=>rfl
 | some v=>cases h2:zin P ts hp l<;>rfl
def z1e (l:Option (List Value)):Option Value :=
 match l with
 | some [v]=>some v
 | some vs=>some (.tuple vs.toArray)
 | none=>none
@[simp] theorem jjd (v:Value):z1e (some [v])=some v:=nr rfl
@[simp] theorem jje (v u:Value) (l:List Value):z1e (some (v::u::l))=some (.tuple (v::u::l).toArray):=nr rfl
@[simp] theorem jjc:z1e (some [])=some (.tuple #[]):=nr rfl
@[simp] theorem jjb (rs:List ResultVar):zmq P rs ts hp=z1e (zin P ts hp rs):=nr rfl
@[simp] theorem zca (next:GS->Prop) (K:Exit->GS->Prop) (s:GS):zbo next K .normal s=next s:=nr rfl
@[simp] theorem zxl (next:GS->Prop) (K:Exit->GS->Prop) (s:GS):zbo next K .ret s=K .ret s:=nr rfl
@[simp] theorem zts (next:GS->Prop) (K:Exit->GS->Prop) (i:Nat) (s:GS):zbo next K (.exit i) s=K (.exit i) s:=nr rfl
@[simp] theorem ztt (next:GS->Prop) (K:Exit->GS->Prop) (i:Nat) (s:GS):zbo next K (.goto i) s=K (.goto i) s:=nr rfl
@[simp] theorem zgy (next:GS->Prop) (K:Exit->GS->Prop) (ch:List PanicEntry) (s:GS):zbo next K (.panic ch) s=K (.panic ch) s:=nr rfl
@[simp] theorem zm5 (i:Nat) (K:Exit->GS->Prop) (ch:List PanicEntry) (s:GS):zes i K (.panic ch) s=K (.panic ch) s:=nr rfl
@[simp] theorem znv (l:Nat) (J:GS->Prop) (K:Exit->GS->Prop) (s:GS):zh2 l J K .normal s=K .normal s:=nr rfl
@[simp] theorem zv2 (l:Nat) (J:GS->Prop) (K:Exit->GS->Prop) (s:GS):zh2 l J K .ret s=K .ret s:=nr rfl
@[simp] theorem zsw (l i:Nat) (J:GS->Prop) (K:Exit->GS->Prop) (s:GS):zh2 l J K (.exit i) s=K (.exit i) s:=nr rfl
@[simp] theorem zpg (l:Nat) (ch:List PanicEntry) (J:GS->Prop) (K:Exit->GS->Prop) (s:GS):zh2 l J K (.panic ch) s=K (.panic ch) s:=nr rfl
@[simp] theorem ze0 (i:Nat) (K:Exit->GS->Prop) (s:GS):zes i K .normal s=K .normal s:=nr rfl
@[simp] theorem zr5 (i:Nat) (K:Exit->GS->Prop) (s:GS):zes i K .ret s=K .ret s:=nr rfl
@[simp] theorem zi5 (i j:Nat) (K:Exit->GS->Prop) (s:GS):zes i K (.exit j) s=if j=i then K .normal s else K (.exit j) s:=nr rfl
@[simp] theorem zo2 (i j:Nat) (K:Exit->GS->Prop) (s:GS):zes i K (.goto j) s=K (.goto j) s:=nr rfl
theorem wN:(∀ (J:GS->Prop) (K:Exit->GS->Prop) (s:GS),zbo J K .normal s=J s)/\(∀ (J:GS->Prop) (K:Exit->GS->Prop) (s:GS),zbo J K .ret s=K .ret s)/\(∀ (J:GS->Prop) (K:Exit->GS->Prop) (i:Nat) (s:GS),zbo J K (.exit i) s=K (.exit i) s) /\
  (∀ (J:GS->Prop) (K:Exit->GS->Prop) (i:Nat) (s:GS),zbo J K (.goto i) s=K (.goto i) s)/\(∀ (J:GS->Prop) (K:Exit->GS->Prop) (ch:List PanicEntry) (s:GS),zbo J K (.panic ch) s=K (.panic ch) s) /\
  (∀ (i:Nat) (K:Exit->GS->Prop) (s:GS),zes i K .normal s=K .normal s)/\(∀ (i:Nat) (K:Exit->GS->Prop) (s:GS),zes i K .ret s=K .ret s)/\(∀ (i j:Nat) (K:Exit->GS->Prop) (s:GS),zes i K (.goto j) s=K (.goto j) s)/\(∀ (i:Nat) (K:Exit->GS->Prop) (ch:List PanicEntry) (s:GS),zes i K (.panic ch) s=K (.panic ch) s) /\
  (∀ (l:Nat) (J:GS->Prop) (K:Exit->GS->Prop) (s:GS),zh2 l J K .normal s=K .normal s)/\(∀ (l:Nat) (J:GS->Prop) (K:Exit->GS->Prop) (s:GS),zh2 l J K .ret s=K .ret s)/\(∀ (l i:Nat) (J:GS->Prop) (K:Exit->GS->Prop) (s:GS),zh2 l J K (.exit i) s=K (.exit i) s)/\∀ (l:Nat) (ch:List PanicEntry) (J:GS->Prop) (K:Exit->GS->Prop) (s:GS),zh2 l J K (.panic ch) s=K (.panic ch) s :=
 ⟨zca,zxl,zts,ztt,zgy,ze0,zr5,zo2,zm5,znv,zv2,zsw,zpg⟩
theorem wT:(∀ (a:Oper) (i:Nat) (l:List Oper),(a::l).take (i+1)=a::l.take i)/\(∀ l:List Oper,l.take 0=[])/\(∀ (a:Oper) (i:Nat) (l:List Oper),(a::l).drop (i+1)=l.drop i)/\(∀ l:List Oper,l.drop 0=l)/\∀ n:Nat,0+n=n:=⟨λ_ _ _=>rfl,λ_=>rfl,λ_ _ _=>rfl,λ_=>rfl,Nat.zero_add⟩
end

section
variable {P:Program}
theorem zc1 {T:TypeId} {m:Nat} (h1:zfa P T=some true) (h2:zas P T=some m) (c:Array Value) (off:Nat):zbx P T c off=if off+m<=c.size then some (.agg (c.extract off (off+m))) else none:=by
 simp [zbx,h1,h2]
def zjv (v:Option Value):Option Value :=
 match v with
 | some v=>if zj3 v then some v else none
 | none=>none
@[simp] theorem jdk (b:Bool):zjv (some (.bool b))=some (.bool b):=nr rfl
@[simp] theorem jgl (k:IntKind) (n:Int):zjv (some (.int k n))=some (.int k n):=nr rfl
@[simp] theorem z3p (a:Option Addr):zjv (some (.pointer a))=some (.pointer a):=nr rfl
@[simp] theorem z9a (a:Option Addr) (n c:Nat):zjv (some (.slice a n c))=some (.slice a n c):=nr rfl
@[simp] theorem jdl (f:Fn) (a b:Array Value):zjv (some (.func f a b))=some (.func f a b):=nr rfl
@[simp] theorem z63 (s:ByteArray):zjv (some (.string s))=some (.string s):=nr rfl
theorem zcf {T:TypeId} (h1:zfa P T=some false) (c:Array Value) (off:Nat):zbx P T c off=zjv c[off]?:=by
 unfold zbx zjv
 simp only [h1]
 rfl
theorem zb1 {T:TypeId} {z:Value} (h:∀ w,(zeroValue T).run P w=.ok z w):zbd P T=some z:=by
 have h:=h default
 unfold zbd
 unfold zeroValue typeInfo at h
 cases hi:P.info? T with
 | none=>simp [hi,stuck] at h
 | some i =>
  simp [hi] at h
  cases hz:i.zero with
  | none=>simp [hz,unsupported] at h
  | some u=>simp [hz] at h;simp [hz,h]
theorem zai {T:TypeId} {m:Nat} (h:∀ w,(sizeOf T).run P w=.ok m w):zas P T=some m:=by
 have h:=h default
 unfold zas
 unfold sizeOf typeInfo at h
 cases hi:P.info? T with
 | none=>simp [hi,stuck] at h
 | some i=>simp [hi] at h;simp [h]
theorem zba {T:TypeId} {b:Bool} (h:∀ w,(isAgg T).run P w=.ok b w):zfa P T=some b:=by
 have h:=h default
 unfold zfa
 unfold isAgg underlying at h
 cases hi:P.underlying T with
 | none=>simp [hi,stuck] at h
 | some i=>cases i<;>simp_all
theorem zfz {T e:TypeId} {n m:Nat} (hu:P.underlying T=some (.array n e)) (hs:zas P e=some m):zbf P T=some (.inr m):=by simp [zbf,hu,hs]
theorem zuw {T e:TypeId} {n:Nat} {k:IntKind} (hu:P.underlying T=some (.array n e)) (he:P.underlying e=some (.int k)) (hs:zas P e=some 1) (hg:P.eqGuardType P.depth T=false):zt0 P T=some n:=by
 simp [zt0,hu,he,hs,hg]
theorem zy6 {T:TypeId} (hu:P.underlying T=some .bool):zlh P T=true:=by simp [zlh,hu]
end

def tsL:List (Nat×Value)->Nat->Value
 | []=>λ_=>zcj
 | (k,v)::l=>upd (tsL l) k v
def hpL (G:Hp):List (Nat×Blk)->Hp
 | []=>G
 | (k,b)::m=>upd (hpL G m) k (some b)
@[simp] theorem jjn (t:Nat):tsL [] t=zcj:=nr rfl
@[simp] theorem zmf (k:Nat) (v:Value) (l:List (Nat×Value)) (t:Nat):tsL ((k,v)::l) t=if t=k then v else tsL l t:=nr rfl
@[simp] theorem zaq (G:Hp):hpL G []=G:=nr rfl
@[simp] theorem zag (G:Hp) (k:Nat) (b:Blk) (m:List (Nat×Blk)) (t:Nat):hpL G ((k,b)::m) t=if t=k then some b else hpL G m t:=nr rfl

theorem zdv:∀ {l:List (Nat×Value)} {t:Nat},tsL l t=zcj\/(t,tsL l t)∈l
 | [],_=>.inl rfl
 | (k,v)::l,t=>by
  rw [zmf]
  split
  ·rename_i e;subst e;exact .inr (by simp)
  ·rcases zdv (l:=l) (t:=t) with h|h
   ·exact .inl h
   ·exact .inr (List.mem_cons_of_mem _ h)
theorem za5 {G:Hp}:∀ {m:List (Nat×Blk)} {k:Nat} {b:Blk},hpL G m k=some b->(k,b)∈m\/G k=some b
 | [],_,_,h=>.inr h
 | (q,c)::m,k,b,h=>by
  rw [zag] at h
  split at h
  ·rename_i e;subst e;cases h;exact .inl (by simp)
  ·exact (za5 h).imp (List.mem_cons_of_mem _) id
theorem za7 {G:Hp}:∀ {m:List (Nat×Blk)} {k:Nat},(∀ p∈m,100<=p.1)->k<100->hpL G m k=G k
 | [],_,_,_=>rfl
 | (q,c)::m,k,h,hk=>by
  have:=h (q,c) (by simp)
  rw [zag,if_neg (by simp at this;omega)]
  exact za7 (λp hp=>h p (List.mem_cons_of_mem _ hp)) hk
theorem zfs {G:Hp} (hGF:zbg G) {m:List (Nat×Blk)} {rs:List Nat} (h:∀ p∈m,p.1∈rs):rst (hpL G m) rs=hpL G m:=funext λk=>by
 unfold rst
 split
 ·rfl
 ·rename_i hk
  cases hb:hpL G m k with
  | none=>rfl
  | some b =>
   rcases za5 hb with h1|h1
   ·exact absurd (.inr (h _ h1)) hk
   ·exact absurd (.inl (hGF k b h1).1) hk

theorem zbi {C:Ctx} {G:Hp} {s:GS} {m m0:List (Nat×Blk)} (l:List (Nat×Value)) (B:Nat) (hG:C.G=G) (hGF:zbg G) (h0:C.hp0=hpL G m0) (hB:100<=B) (hl:∀ p∈l,s.ts p.1=p.2/\zan (dom (hpL G m)) p.2)
  (hm:∀ p∈m,s.hp p.1=some p.2/\p.2.ids (dom (hpL G m))/\100<=p.1/\p.1<B) (hk:∀ p∈m0,100<=p.1/\hpL G m p.1=s.hp p.1):Weak C s ⟨tsL l,hpL G m,B,s.yc⟩ where
 ts t:=by
  rcases zdv (l:=l) (t:=t) with h|h
  ·exact .inl h
  ·exact .inr ⟨(hl _ h).1.symm,(hl _ h).2⟩
 hp k hk:=by
  dsimp only
  cases hb:hpL G m k with
  | none=>exact .inl rfl
  | some b =>
   rcases za5 hb with h|h
   ·exact .inr (hm _ h).1.symm
   ·have:=(hGF k b h).1;omega
 ids k b hb:=by
  rcases za5 hb with h|h
  ·exact (hm _ h).2.1
  ·exact Blk.flat_ids ((hGF k b h).2)
 keep k h1k hd:=by
  rw [h0] at hd
  dsimp only
  unfold dom at hd
  cases hb:hpL G m0 k with
  | none=>exact absurd hb hd
  | some b =>
   rcases za5 hb with h|h
   ·exact (hk _ h).2
   ·have hlt:=(hGF k b h).1;omega
 glob k hlt:=by rw [hG];exact za7 (λp hp=>(hm p hp).2.2.1) hlt
 yc:=rfl
 free x hx:=by
  dsimp only at hx |-
  cases hb:hpL G m x with
  | none=>rfl
  | some b =>
   rcases za5 hb with h|h
   ·have:=(hm _ h).2.2.2;simp at this;omega
   ·have:=(hGF x b h).1;omega
 low:=hB

theorem zb7 {P:Program} {G:Hp} {f:FuncId} {args:Array Value} {hp hp':Hp} {rs:List Nat} {res:Res} {nk:Nat} {K:Eff->Prop} (h:Fun P G f args hp' rs res) (h1:∀ k∈rs,hp' k=hp k) (h2:∀ k,k<100->hp' k=G k) (h3:res.at nk) (hk:K (res.eff rs)):zhz P G f args hp nk K :=
 ⟨hp',rs,res,h1,h2,h,h3,hk⟩

@[simp] theorem jh6 (D:Nat->Prop) (b:Bool):zan D (.bool b)=True:=nr rfl
@[simp] theorem jky (D:Nat->Prop) (k:IntKind) (n:Int):zan D (.int k n)=True:=nr rfl
@[simp] theorem jbh (D:Nat->Prop) (s:ByteArray):zan D (.string s)=True:=nr rfl
@[simp] theorem jkz (D:Nat->Prop) (a:Addr):zan D (.pointer (some a))=D a.block:=nr rfl
@[simp] theorem jh7 (D:Nat->Prop) (fn:Fn) (a b:Array Value):zan D (.func fn a b)=((∀ x∈a,zal D x)/\∀ x∈b,zal D x):=nr rfl
@[simp] theorem je4 (D:Nat->Prop) (t:TypeId) (v:Value):zan D (.iface t v)=zal D v:=nr rfl
@[simp] theorem jkx (D:Nat->Prop) (l:List Value):zan D (.agg l.toArray)↔∀ x∈l,zah D x:=by simp [zan,za0]
@[simp] theorem je5 (D:Nat->Prop):zan D undef=True:=by simp [undef,zan]
@[simp] theorem jkv (D:Nat->Prop) (k:IntKind) (n:Int):zal D (.int k n)=True:=nr rfl
@[simp] theorem jkw (D:Nat->Prop) (k:IntKind) (n:Int):zah D (.int k n)=True:=nr rfl
@[simp] theorem jek (l:List Value) (T:TypeId) (D:Nat->Prop):(Blk.mk l.toArray T).ids D↔∀ x∈l,zah D x:=by simp [Blk.ids]

@[simp] theorem zmn (x:Int):IntKind.u64.wrap x=x%18446744073709551616:=by simp [IntKind.wrap,IntKind.bits,IntKind.signed]
@[simp] theorem jgz (x:Int):IntKind.i64.wrap x=Int.bmod x 18446744073709551616:=by
 rw [Int.bmod_def]
 simp only [IntKind.wrap,IntKind.bits,IntKind.signed]
 simp
 split<;>split<;>omega
@[simp] theorem jeo:IntKind.u64.bits=64:=rfl
@[simp] theorem jen:IntKind.i64.bits=64:=rfl

def wi (z:Int) (k:Nat):Int:=z / 2^(64*k)%18446744073709551616
def di (z:Int) (k:Nat):Int:=z / 2^(32*k)%4294967296
def car (z y c:Int) (i:Nat):Int:=(z%2^(32*i)+y%2^(32*i)+c) / 2^(32*i)

theorem zbk (z:Int) (k:Nat):0<=wi z k:=Int.emod_nonneg _ (by omega)
theorem zbp (z:Int) (k:Nat):wi z k<18446744073709551616:=Int.emod_lt_of_pos _ (by omega)
theorem zew (i:Nat):(0:Int)<2^(32*i):=Int.pow_pos (by decide)

theorem zg4 (z M B:Int) (hM:0<M) (hB:0<B):z%(M*B)=z%M+M*(z / M%B):=by
 have h1:=Int.emod_add_mul_ediv z M
 have h2:=Int.emod_add_mul_ediv (z / M) B
 have h3:=Int.emod_nonneg z (b:=M) (by omega)
 have h4:=Int.emod_lt_of_pos z hM
 have h5:=Int.emod_nonneg (z / M) (b:=B) (by omega)
 have h6:=Int.emod_lt_of_pos (z / M) hB
 have e:z=(z%M+M*(z / M%B))+(M*B)*(z / M / B):=by
  have:M*B*(z / M / B)=M*(B*(z / M / B)):=Int.mul_assoc ..
  rw [this]
  have h7:M*(z / M)=M*(z / M%B+B*(z / M / B)):=by rw [h2]
  rw [Int.mul_add] at h7
  omega
 have hnn:0<=z%M+M*(z / M%B):=by
  have:=Int.mul_nonneg (Int.le_of_lt hM) h5;omega
 have hlt:z%M+M*(z / M%B)<M*B:=by
  have:M*(z / M%B)<=M*(B - 1):=Int.mul_le_mul_of_nonneg_left (by omega) (Int.le_of_lt hM)
  rw [Int.mul_sub] at this
  omega
 conv=>lhs;rw [e]
 rw [Int.add_mul_emod_self_left]
 exact Int.emod_eq_of_lt hnn hlt

theorem zsd (z y c M:Int) (hM:0<M):(z+y+c) / M=z / M+y / M+(z%M+y%M+c) / M:=by
 have h1:=Int.emod_add_mul_ediv z M
 have h2:=Int.emod_add_mul_ediv y M
 have:z+y+c=(z%M+y%M+c)+M*(z / M+y / M):=by rw [Int.mul_add];omega
 rw [this,Int.add_mul_ediv_left _ _ (by omega)]
 omega

theorem zy9 (z y c:Int):car z y c 0=c:=by simp [car,Int.emod_one]
theorem z2m (z y c:Int) (h0:0<=c) (h1:c<=1) (i:Nat):0<=car z y c i/\car z y c i<=1:=by
 unfold car
 generalize hM:(2:Int)^(32*i)=M
 have hp:0<M:=hM▸zew i
 have h3:=Int.emod_nonneg z (b:=M) (by omega)
 have h4:=Int.emod_lt_of_pos z hp
 have h5:=Int.emod_nonneg y (b:=M) (by omega)
 have h6:=Int.emod_lt_of_pos y hp
 refine ⟨Int.ediv_nonneg (by omega) (by omega),?_⟩
 have:(z%M+y%M+c) / M<2:=Int.ediv_lt_of_lt_mul hp (by omega)
 omega
def sz (z:Int):Int:=Int.bmod z 115792089237316195423570985008687907853269984665640564039457584007913129639936
theorem jj3 (z:Int):z%115792089237316195423570985008687907853269984665640564039457584007913129639936=wi z 0+18446744073709551616*wi z 1+340282366920938463463374607431768211456*wi z 2+6277101735386680763835789423207666416102355444464034512896*wi z 3:=by
 simp only [wi];omega
theorem weq (a b:Int):(wi a 0==wi b 0&&(wi a 1==wi b 1&&(wi a 2==wi b 2&&wi a 3==wi b 3)))=decide (sz a=sz b):=by
 rw [Bool.eq_iff_iff]
 simp only [Bool.and_eq_true,beq_iff_eq,decide_eq_true_eq]
 have h1:=jj3 a
 have h2:=jj3 b
 have e:sz a=sz b↔a%115792089237316195423570985008687907853269984665640564039457584007913129639936=b%115792089237316195423570985008687907853269984665640564039457584007913129639936:=by
  unfold sz
  rw [Int.bmod_def,Int.bmod_def]
  constructor<;>intro h
  ·split at h<;>split at h<;>omega
  ·have h:a%((115792089237316195423570985008687907853269984665640564039457584007913129639936:Nat):Int)=b%((115792089237316195423570985008687907853269984665640564039457584007913129639936:Nat):Int):=h
   rw [h]
 rw [e]
 constructor
 ·rintro ⟨h3,h4,h5,h6⟩;rw [h1,h2,h3,h4,h5,h6]
 ·intro h
  simp only [wi]
  refine ⟨?_,?_,?_,?_⟩<;>omega
theorem wne (a b:Int):(!wi a 0==wi b 0||(!wi a 1==wi b 1||(!wi a 2==wi b 2||!wi a 3==wi b 3)))=!decide (sz a=sz b):=by
 rw [<-weq];simp [Bool.not_and]
def i64 (n:Int):Prop:=-9223372036854775808<=n/\n<9223372036854775808
instance (n:Int):Decidable (i64 n):=by unfold i64;infer_instance
theorem zy5 (x:Int):i64 (Int.bmod x 18446744073709551616):=by
 unfold i64;rw [Int.bmod_def];constructor<;>split<;>omega
theorem jbo (z:Int):sz (Int.bmod (wi z 0) 18446744073709551616)=sz z↔i64 (sz z):=by
 simp only [wi,sz,i64,Int.bmod_def]
 constructor
 ·intro h;constructor<;>(repeat' split at h)<;>(repeat' split)<;>omega
 ·rintro ⟨h1,h2⟩;(repeat' split at h1)<;>(repeat' split)<;>omega
theorem z5u (z:Int) (h:i64 (sz z)):Int.bmod (wi z 0) 18446744073709551616=sz z:=by
 simp only [wi,sz,i64,Int.bmod_def] at *
 obtain ⟨h1,h2⟩:=h
 (repeat' split at h1)<;>(repeat' split)<;>omega
def zch (a b:Int):Int:=if a<b then -1 else if a=b then 0 else 1
end Go.Gy
namespace Go.Gy
open Go Go.RowKit Go.Proofs.Tryz
theorem follows:prog.follows .mixedOrders=true:=by kernel_rfl
section
variable {P:Program} {C:Ctx} {n:Nat} {d:List Deferred} {ro:Option Nat} {s:GS} {K:Exit->GS->Prop}
theorem gwS {x y:Code} (h:GW P C n d ro x s (zbo (λs'=>GW P C n d ro y s' K) K)):GW P C n d ro (.seq x y) s K:=zgm h
theorem gwK (h:K .normal s):GW P C n d ro .skip s K:=zue h
theorem gwT (h:K .ret s):GW P C n d ro .ret s K:=zud h
theorem gwE {id:Nat} (h:K (.exit id) s):GW P C n d ro (.exit id) s K:=z4a h
theorem gwG {id:Nat} (h:K (.goto id) s):GW P C n d ro (.goto id) s K:=z4b h
theorem gwL {id:Nat} (h:K .normal s):GW P C n d ro (.label id) s K:=zqa h
theorem gwB {id:Nat} {c:Code} (h:GW P C n d ro c s (zes id K)):GW P C n d ro (.block id c) s K:=zk8 h
theorem gwC {t:Tmp} {x y:Code} {b:Bool} (ht:b=true->GW P C n d ro x s K) (hf:b=false->GW P C n d ro y s K) (hb:s.ts t=.bool b:=by simp;rfl):GW P C n d ro (.cond (.tmp t) x y) s K:=zow hb ht hf
theorem gwR {id:Nat} {l:List Oper} (pn:List FuncId) (h:∀ (Q:QQ),(∀ ts hp tr yc,true=true->K .normal ⟨ts,hp,s.B+8*l.length,yc⟩->Q.q ts hp tr yc)->(∀ pv tr,true=true->(∀ yc,K (.panic [{ v:=pv,recovered:=false }]) ⟨zhe l s.ts,s.hp,s.B,yc⟩)->Q.p pv tr)->ziy P C.G ⟨C.Y,pn,false⟩ s.B Q [] 0 l s.ts s.hp [] s.yc false false)
  (hdst:(zil n l&&zxq P l)=true:=by kernel_rfl):GW P C n d ro (.region id l.toArray false) s K:=zct pn hdst λQ hQ hP=>h Q (λts hp tr yc _=>hQ ts hp tr yc) (λpv tr _=>hP pv tr)
theorem gwD {id:Nat} {l:List Oper} (pn:List FuncId) (h:∀ (Q:QQ),(∀ ts hp tr yc,chk .any l.toArray tr=true->K .normal ⟨ts,hp,s.B+8*l.length,yc⟩->Q.q ts hp tr yc)->(∀ pv tr,chk .any l.toArray tr=true->(∀ yc,K (.panic [{ v:=pv,recovered:=false }]) ⟨zhe l s.ts,s.hp,s.B,yc⟩)->Q.p pv tr)->ziy prog C.G ⟨C.Y,pn,true⟩ s.B Q [] 0 l s.ts s.hp [] s.yc false false)
  (hB:Region.lexFrom .any l.toArray l.length 0 (Array.replicate l.length false)=true:=by kernel_rfl) (hdst:(zil n l&&zxq prog l)=true:=by kernel_rfl):GW prog C n d ro (.region id l.toArray true) s K:=zym pn follows hB hdst h
theorem wM:(∀ (a:Oper) (l:List Oper),(a::l).length=l.length+1)/\([]:List Oper).length=0:=⟨λ_ _=>rfl,rfl⟩
end
@[simp] theorem ts1:zas prog 1=some 1:=zai sizeOf1
@[simp] theorem ts2:zas prog 2=some 1:=zai sizeOf2
@[simp] theorem tz3:zbd prog 3=some (.int .i64 0):=zb1 zeroValue3
@[simp] theorem ts3:zas prog 3=some 1:=zai sizeOf3
@[simp] theorem lb3:∀ c off,zbx prog 3 c off=zjv c[off]?:=zcf (zba isAgg3)
@[simp] theorem jnd:zz9 prog 3=true:=by kernel_rfl
@[simp] theorem jnc:zx7 prog 3=none:=by kernel_rfl
@[simp] theorem tz4:zbd prog 4=some (.bool false):=zb1 zeroValue4
@[simp] theorem ts4:zas prog 4=some 1:=zai sizeOf4
@[simp] theorem lb4:∀ c off,zbx prog 4 c off=zjv c[off]?:=zcf (zba isAgg4)
@[simp] theorem bo4:zlh prog 4=true:=zy6 underlying4
@[simp] theorem ts9:zas prog 9=some 1:=zai sizeOf9
@[simp] theorem lb9:∀ c off,zbx prog 9 c off=zjv c[off]?:=zcf (zba isAgg9)
@[simp] theorem jne:∀ c off,zbx prog 22 c off=zjv c[off]?:=zcf (zba isAgg22)
@[simp] theorem jod:zbd prog 24=some (.agg #[.slice none 0 0,.int .i64 0,.int .i64 0,.int .i64 0,.int .i64 0,.int .i64 0]):=zb1 zeroValue24
@[simp] theorem jmp:zas prog 24=some 6:=zai sizeOf24
@[simp] theorem jnf:∀ c off,zbx prog 24 c off=if off+6<=c.size then some (.agg (c.extract off (off+6))) else none:=zc1 (zba isAgg24) jmp
@[simp] theorem jj8:fdX prog 24 0=some (22,0):=by simp only [fdX,underlying24,zai sizeOf22];kernel_rfl
@[simp] theorem jj9:fdX prog 24 1=some (3,1):=by simp only [fdX,underlying24,zai sizeOf3];kernel_rfl
@[simp] theorem jka:fdX prog 24 2=some (3,2):=by simp only [fdX,underlying24,zai sizeOf3];kernel_rfl
@[simp] theorem jkb:fdX prog 24 3=some (3,3):=by simp only [fdX,underlying24,zai sizeOf3];kernel_rfl
@[simp] theorem jkc:fdX prog 24 4=some (3,4):=by simp only [fdX,underlying24,zai sizeOf3];kernel_rfl
@[simp] theorem jkd:fdX prog 24 5=some (3,5):=by simp only [fdX,underlying24,zai sizeOf3];kernel_rfl
@[simp] theorem jnx:zbf prog 24=some (.inl [(0,1),(1,1),(2,1),(3,1),(4,1),(5,1)]):=by simp only [zbf,underlying24];kernel_rfl
@[simp] theorem jng:∀ c off,zbx prog 25 c off=zjv c[off]?:=zcf (zba isAgg25)
@[simp] theorem joe:zbd prog 27=some (.agg #[.int .i64 0,.slice none 0 0]):=zb1 zeroValue27
@[simp] theorem jmq:zas prog 27=some 2:=zai sizeOf27
@[simp] theorem jnh:∀ c off,zbx prog 27 c off=if off+2<=c.size then some (.agg (c.extract off (off+2))) else none:=zc1 (zba isAgg27) jmq
@[simp] theorem jke:fdX prog 27 0=some (3,0):=by simp only [fdX,underlying27,zai sizeOf3];kernel_rfl
@[simp] theorem jkf:fdX prog 27 1=some (25,1):=by simp only [fdX,underlying27,zai sizeOf25];kernel_rfl
@[simp] theorem jny:zbf prog 27=some (.inl [(0,1),(1,1)]):=by simp only [zbf,underlying27];kernel_rfl
@[simp] theorem joa:zas prog 28=some 1:=zai sizeOf28
@[simp] theorem jni:∀ c off,zbx prog 28 c off=zjv c[off]?:=zcf (zba isAgg28)
@[simp] theorem jof:zbd prog 30=some (.agg #[.int .u64 0,.int .u64 0,.int .u64 0,.int .u64 0]):=zb1 zeroValue30
@[simp] theorem jmr:zas prog 30=some 4:=zai sizeOf30
@[simp] theorem jnj:∀ c off,zbx prog 30 c off=if off+4<=c.size then some (.agg (c.extract off (off+4))) else none:=zc1 (zba isAgg30) jmr
@[simp] theorem jnz:zbf prog 30=some (.inr 1):=zfz underlying30 (zai sizeOf28)
@[simp] theorem jlt:zx7 prog 30=some 4:=by kernel_rfl
@[simp] theorem jm7:zt0 prog 30=some 4:=zuw underlying30 underlying28 (zai sizeOf28) eqGuardType30
@[simp] theorem jog:zbd prog 32=some (.agg #[.int .u64 0,.int .u64 0,.int .u64 0,.int .u64 0,.int .u64 0,.int .u64 0,.int .u64 0,.int .u64 0]):=zb1 zeroValue32
@[simp] theorem jms:zas prog 32=some 8:=zai sizeOf32
@[simp] theorem jnk:∀ c off,zbx prog 32 c off=if off+8<=c.size then some (.agg (c.extract off (off+8))) else none:=zc1 (zba isAgg32) jms
@[simp] theorem jkg:fdX prog 32 0=some (30,0):=by simp only [fdX,underlying32,zai sizeOf30];kernel_rfl
@[simp] theorem jkh:fdX prog 32 1=some (30,4):=by simp only [fdX,underlying32,zai sizeOf30];kernel_rfl
@[simp] theorem jlv:zt0 prog 32=none:=by kernel_rfl
@[simp] theorem jmm:zf4 prog 32=some [(30,0),(30,4)]:=by kernel_rfl
@[simp] theorem jn0:zbf prog 32=some (.inl [(0,4),(4,4)]):=by simp only [zbf,underlying32];kernel_rfl
@[simp] theorem joh:zbd prog 33=some (.agg #[.int .i64 0,.int .i64 0,.int .i64 0]):=zb1 zeroValue33
@[simp] theorem jmt:zas prog 33=some 3:=zai sizeOf33
@[simp] theorem jnl:∀ c off,zbx prog 33 c off=if off+3<=c.size then some (.agg (c.extract off (off+3))) else none:=zc1 (zba isAgg33) jmt
@[simp] theorem jn1:zbf prog 33=some (.inr 1):=zfz underlying33 (zai sizeOf3)
@[simp] theorem jlu:zx7 prog 33=some 3:=by kernel_rfl
@[simp] theorem jm8:zt0 prog 33=some 3:=zuw underlying33 underlying3 (zai sizeOf3) eqGuardType33
@[simp] theorem jmk:snF prog 32=some ([(30,0),(30,4)],8):=by kernel_rfl
@[simp] theorem jmj:zx7 prog 32=none:=by kernel_rfl
@[simp] theorem jml:zz9 prog 32=false:=by kernel_rfl
@[simp] theorem joi:zbd prog 35=some (.agg #[.int .i64 0,.int .u64 0,.int .u64 0,.int .u64 0,.int .u64 0,.int .u64 0,.int .u64 0,.int .u64 0,.int .u64 0,.int .i64 0,.int .i64 0,.int .i64 0,.int .i64 0,.int .i64 0,.int .i64 0,.int .i64 0,.int .i64 0,.int .i64 0,.int .i64 0,.int .i64 0,.int .i64 0]):=zb1 zeroValue35
@[simp] theorem jmu:zas prog 35=some 21:=zai sizeOf35
@[simp] theorem jnm:∀ c off,zbx prog 35 c off=if off+21<=c.size then some (.agg (c.extract off (off+21))) else none:=zc1 (zba isAgg35) jmu
@[simp] theorem jki:fdX prog 35 0=some (3,0):=by simp only [fdX,underlying35,zai sizeOf3];kernel_rfl
@[simp] theorem jkj:fdX prog 35 1=some (32,1):=by simp only [fdX,underlying35,zai sizeOf32];kernel_rfl
@[simp] theorem jkk:fdX prog 35 2=some (33,9):=by simp only [fdX,underlying35,zai sizeOf33];kernel_rfl
@[simp] theorem jkl:fdX prog 35 3=some (33,12):=by simp only [fdX,underlying35,zai sizeOf33];kernel_rfl
@[simp] theorem jkm:fdX prog 35 4=some (33,15):=by simp only [fdX,underlying35,zai sizeOf33];kernel_rfl
@[simp] theorem jkn:fdX prog 35 5=some (33,18):=by simp only [fdX,underlying35,zai sizeOf33];kernel_rfl
@[simp] theorem jlw:zt0 prog 35=none:=by kernel_rfl
@[simp] theorem jmn:zf4 prog 35=some [(3,0),(32,1),(33,9),(33,12),(33,15),(33,18)]:=by kernel_rfl
@[simp] theorem jn2:zbf prog 35=some (.inl [(0,1),(1,8),(9,3),(12,3),(15,3),(18,3)]):=by simp only [zbf,underlying35];kernel_rfl
@[simp] theorem jnn:∀ c off,zbx prog 36 c off=zjv c[off]?:=zcf (zba isAgg36)
@[simp] theorem joj:zbd prog 38=some (.agg #[.int .u64 0,.int .u64 0,.int .u64 0,.int .u64 0,.int .u64 0,.int .u64 0,.int .u64 0,.int .u64 0,.int .i64 0,.int .i64 0,.int .i64 0,.int .i64 0,.int .i64 0,.int .i64 0]):=zb1 zeroValue38
@[simp] theorem jmv:zas prog 38=some 14:=zai sizeOf38
@[simp] theorem jno:∀ c off,zbx prog 38 c off=if off+14<=c.size then some (.agg (c.extract off (off+14))) else none:=zc1 (zba isAgg38) jmv
@[simp] theorem jko:fdX prog 38 0=some (32,0):=by simp only [fdX,underlying38,zai sizeOf32];kernel_rfl
@[simp] theorem jkp:fdX prog 38 1=some (33,8):=by simp only [fdX,underlying38,zai sizeOf33];kernel_rfl
@[simp] theorem jkq:fdX prog 38 2=some (33,11):=by simp only [fdX,underlying38,zai sizeOf33];kernel_rfl
@[simp] theorem jn3:zbf prog 38=some (.inl [(0,8),(8,3),(11,3)]):=by simp only [zbf,underlying38];kernel_rfl
@[simp] theorem jok:zbd prog 41=some (.int .i64 0):=zb1 zeroValue41
@[simp] theorem job:zas prog 41=some 1:=zai sizeOf41
@[simp] theorem jnp:∀ c off,zbx prog 41 c off=zjv c[off]?:=zcf (zba isAgg41)
@[simp] theorem jol:zbd prog 70=some (.agg #[.int .i64 0,.int .i64 0,.int .i64 0]):=zb1 zeroValue70
@[simp] theorem jmw:zas prog 70=some 3:=zai sizeOf70
@[simp] theorem jnq:∀ c off,zbx prog 70 c off=if off+3<=c.size then some (.agg (c.extract off (off+3))) else none:=zc1 (zba isAgg70) jmw
@[simp] theorem jn4:zbf prog 70=some (.inr 1):=zfz underlying70 (zai sizeOf3)
@[simp] theorem jom:zbd prog 72=some (.agg #[.int .i64 0,.int .i64 0,.int .i64 0,.int .i64 0,.int .i64 0,.int .i64 0]):=zb1 zeroValue72
@[simp] theorem jmx:zas prog 72=some 6:=zai sizeOf72
@[simp] theorem jnr:∀ c off,zbx prog 72 c off=if off+6<=c.size then some (.agg (c.extract off (off+6))) else none:=zc1 (zba isAgg72) jmx
@[simp] theorem jkr:fdX prog 72 0=some (70,0):=by simp only [fdX,underlying72,zai sizeOf70];kernel_rfl
@[simp] theorem jks:fdX prog 72 1=some (70,3):=by simp only [fdX,underlying72,zai sizeOf70];kernel_rfl
@[simp] theorem jn5:zbf prog 72=some (.inl [(0,3),(3,3)]):=by simp only [zbf,underlying72];kernel_rfl
@[simp] theorem jns:∀ c off,zbx prog 82 c off=zjv c[off]?:=zcf (zba isAgg82)
@[simp] theorem jnt:∀ c off,zbx prog 83 c off=zjv c[off]?:=zcf (zba isAgg83)
@[simp] theorem jon:zbd prog 85=some (.agg #[.pointer none,.pointer none]):=zb1 zeroValue85
@[simp] theorem joc:zas prog 85=some 2:=zai sizeOf85
@[simp] theorem jkt:fdX prog 85 0=some (83,0):=by simp only [fdX,underlying85,zai sizeOf83];kernel_rfl
@[simp] theorem jku:fdX prog 85 1=some (83,1):=by simp only [fdX,underlying85,zai sizeOf83];kernel_rfl
@[simp] theorem jn6:zbf prog 85=some (.inl [(0,1),(1,1)]):=by simp only [zbf,underlying85];kernel_rfl
@[simp] theorem joo:zbd prog 96=some (.agg #[.int .u64 0,.int .u64 0,.int .u64 0,.int .u64 0,.int .u64 0,.int .u64 0,.int .u64 0,.int .u64 0]):=zb1 zeroValue96
@[simp] theorem jl5:∀ c off,zbx prog 109 c off=zjv c[off]?:=zcf (zba isAgg109)
@[simp] theorem jmy:zbd prog 136=some (.agg #[.int .i64 0,.int .i64 0,.int .i64 0]):=zb1 zeroValue136
@[simp] theorem jmo:zas prog 136=some 3:=zai sizeOf136
@[simp] theorem jhi:fdX prog 136 0=some (3,0):=by simp only [fdX,underlying136,zai sizeOf3];kernel_rfl
@[simp] theorem jhj:fdX prog 136 1=some (3,1):=by simp only [fdX,underlying136,zai sizeOf3];kernel_rfl
@[simp] theorem jhk:fdX prog 136 2=some (3,2):=by simp only [fdX,underlying136,zai sizeOf3];kernel_rfl
@[simp] theorem jmc:zbf prog 136=some (.inl [(0,1),(1,1),(2,1)]):=by simp only [zbf,underlying136];kernel_rfl
@[simp] theorem jl6:∀ c off,zbx prog 167 c off=zjv c[off]?:=zcf (zba isAgg167)
@[simp] theorem jjm:zas prog 171=some 7:=zai sizeOf171
@[simp] theorem jl7:∀ c off,zbx prog 171 c off=if off+7<=c.size then some (.agg (c.extract off (off+7))) else none:=zc1 (zba isAgg171) jjm
@[simp] theorem jl8:∀ c off,zbx prog 194 c off=zjv c[off]?:=zcf (zba isAgg194)
end Go.Gy
namespace Go.Gy
open Go Go.RowKit
theorem gwq {Q : QQ} {c : Tr -> Prop} {K : (Nat -> Value) -> Hp -> Nat -> Prop} (hQ : ∀ ts hp tr yc, c tr -> K ts hp yc -> Q.q ts hp tr yc) {ts : Nat -> Value} {hp : Hp} {tr : Tr} {yc : Nat} (k : K ts hp yc) (h : c tr := by kernel_rfl) : Q.q ts hp tr yc := hQ _ _ _ _ h k
theorem gwX {P Q : Prop} (q : Q) (h : Q -> P := by first | exact gwR [] | exact gwD []) : P := h q
theorem gwA {P Q : Prop} (q : Q) (h : Q -> P := by first | exact gwS | (intro q; simp only [wN, wM, Nat.reduceAdd, Nat.reduceMul]; exact q) | exact gwB | exact gwT | exact gwK | exact gwE | exact gwG | exact gwL | (intro q; simp only [zi5]; exact q)) : P := h q
end Go.Gy
namespace Go.Gy
open Go Go.RowKit
section
variable {P : Program} {C : Ctx} {n : Nat} {d : List Deferred} {ro : Option Nat} {s : GS} {K : Exit -> GS -> Prop}
theorem jl2 {t : Tmp} {x y : Code} (h : GW P C n d ro x s K) (hb : s.ts t = .bool true) : GW P C n d ro (.cond (.tmp t) x y) s K := zow hb (λ_ => h) (λe => nomatch e)
theorem jl1 {t : Tmp} {x y : Code} (h : GW P C n d ro y s K) (hb : s.ts t = .bool false) : GW P C n d ro (.cond (.tmp t) x y) s K := zow hb (λe => nomatch e) (λ_ => h)
end
theorem gwZ {P Q : Prop} (q : Q) (h : Q -> P := by first | exact gwS | (intro q; simp only [wN, wM, Nat.reduceAdd, Nat.reduceMul]; exact q) | exact gwB | exact gwT | exact gwK | exact gwE | exact gwG | exact gwL | (intro q; refine jl2 q ?_; simp; done) | (intro q; refine jl1 q ?_; simp; done) | (intro q; simp only [zi5]; exact q)) : P := h q
theorem gwW {P Q : Prop} (q : Q) (h : Q -> P := by intro q; refine gwX ?_; intro Q hQ _; simp [hC, hY]; refine gwq hQ ?_; exact q) : P := h q
end Go.Gy
namespace Go.Gy
open Go Go.RowKit Go.Proofs Go.Proofs.Tryz
def lsB:Blk:=⟨#[.int .u64 0,.int .u64 0,.int .u64 0,.int .u64 9223372036854775808],.ty 30⟩
def cnB:Blk:=⟨#[.string ⟨#[98,111,100,105,101,115]⟩,.string ⟨#[109,97,115,115]⟩,.string ⟨#[99,111,110,115,116,97,110,116]⟩,.string ⟨#[98,111,120]⟩,.string ⟨#[116,111,112]⟩,.string ⟨#[110,101,97,114]⟩,.string ⟨#[109,101,116,104,111,100]⟩],.ty 171⟩
def G0L:List (Nat×Blk) :=
 (1,lsB) ::
 (0,cnB) ::
 []
def G0:Hp:=hpL (λ_=>none) G0L
theorem zms {k:Nat} {b:Blk} (h:G0 k=some b):(k,b)∈G0L:=(za5 h).resolve_right (λh=>nomatch h)
theorem G0F:zbg G0:=λk b h=>by
 have h1:∀ p∈G0L,p.1<100/\∀ x∈p.2.c,za9 x=true:=by
  simp [G0L,lsB
   ,cnB
  ]
 exact h1 _ (zms h)
@[simp] theorem zff (k:Nat) (h:100<=k):G0 k=none:=by
 cases hb:G0 k with
 | none=>rfl
 | some b=>have:=(G0F k b hb).1;omega
theorem zif {k:Nat} (h:dom G0 k):k<100:=by
 refine Classical.byContradiction λhk=>?_
 exact h (zff k (by omega))
theorem zd4 (D:Nat->Prop) (k:Nat) (b:Blk) (h:G0 k=some b):b.ids D:=Blk.flat_ids ((G0F k b h).2)
@[simp] theorem jee:G0 1=some lsB:=by simp [G0,G0L]
@[simp] theorem jef:G0 0=some cnB:=by simp [G0,G0L]
theorem G0W:∃ W,GOK G0 W:=⟨{ (default:World) with heap:=Array.ofFn (n:=100) λk=>match G0 k.1 with|some b=>b.obj0|none=>.cells #[] 0 (0,0) },λk b h=>by
 have hk:=(G0F k b h).1
 simp [hk,h]⟩

def wd (z:Int):Value:=.agg #[.int .u64 (wi z 0),.int .u64 (wi z 1),.int .u64 (wi z 2),.int .u64 (wi z 3)]
@[simp] theorem z7k (z:Int):wd z=.agg #[.int .u64 (wi z 0),.int .u64 (wi z 1),.int .u64 (wi z 2),.int .u64 (wi z 3)]:=rfl
def dg (z:Int):Value:=.agg #[.int .u64 (di z 0),.int .u64 (di z 1),.int .u64 (di z 2),.int .u64 (di z 3),.int .u64 (di z 4),.int .u64 (di z 5),.int .u64 (di z 6),.int .u64 (di z 7)]
@[simp] theorem jlx (z:Int):dg z=.agg #[.int .u64 (di z 0),.int .u64 (di z 1),.int .u64 (di z 2),.int .u64 (di z 3),.int .u64 (di z 4),.int .u64 (di z 5),.int .u64 (di z 6),.int .u64 (di z 7)]:=rfl
def ng (z:Int):Bool:=decide (9223372036854775808<=wi z 3)

theorem z0q (z:Int):Ret prog G0 60 #[wd z] (.bool (ng z)):=by
 refine za2 G0F func60 rfl call60 rfl (by simp) (by simp [ntmps60]) ?_
 intro C hC _ hY
 repeat' first|refine gwZ ?_|refine gwW ?_|refine gwC ?_ ?_<;>intro hb
 refine ⟨.inr trivial,?_⟩
 simp [results60,ng]
 have:=zbk z 3
 have:=zbp z 3
 rw [Int.fdiv_eq_ediv_of_nonneg _ (by omega)]
 rw [Bool.eq_iff_iff]
 simp
 omega
@[simp] theorem jnu (z:Int) (K:Value->Prop):zbe prog G0 60 #[.agg #[.int .u64 (wi z 0),.int .u64 (wi z 1),.int .u64 (wi z 2),.int .u64 (wi z 3)]] K↔K (.bool (ng z)):=zaf G0W (by kernel_rfl) (z0q z)

end Go.Gy
namespace Go.Gy
open Go Go.RowKit Go.Proofs Go.Proofs.Tryz

theorem jd7 {n : Int} (h : i64 n) (hn : n < 0) : wi n 1 = 18446744073709551615 /\ wi n 2 = 18446744073709551615 /\ wi n 3 = 18446744073709551615 := by
  unfold i64 at h; simp only [wi]; omega
theorem jd8 {n : Int} (h : i64 n) (hn : ¬ n < 0) : wi n 1 = 0 /\ wi n 2 = 0 /\ wi n 3 = 0 := by
  unfold i64 at h; simp only [wi]; omega
theorem jjx (n : Int) : n % 18446744073709551616 = wi n 0 := by simp [wi]
@[simp] theorem zar (k : Nat) : wi 0 k = 0 := by simp [wi]

def jf3 (n : Int) (i : Nat) : GS :=
  ⟨tsL [(0, .int .i64 n), (2, .pointer (some ⟨200, 0, none⟩)), (3, .pointer (some ⟨232, 0, none⟩)), (4, .int .i64 (i + 1 : Nat))],
   hpL G0 [(200, ⟨#[.int .u64 0, .int .u64 0, .int .u64 0, .int .u64 0], .ty 30⟩),
     (232, ⟨#[.int .u64 (wi n 0), .int .u64 (if 0 < i then 18446744073709551615 else 0), .int .u64 (if 1 < i then 18446744073709551615 else 0), .int .u64 (if 2 < i then 18446744073709551615 else 0)], .ty 30⟩)], 300, 0⟩
theorem z6j (n : Int) (h : i64 n) : Ret prog G0 33 #[.int .i64 n] (wd n) := by
  refine za2 G0F func33 rfl call33 (by simp) (by simp) (by simp [ntmps33]) ?_
  intro C hC hC0 hY
  repeat' (first | refine gwA ?_ | (refine gwX ?_; intro Q hQ hP; simp [hC, hY, jjx]; refine gwq hQ ?_; clear hQ hP Q) | (refine gwC ?_ ?_ <;> (intro hb; try (cases hb; done))))
  refine zc3 (if n < 0 then 3 else 0) (jf3 n) ?_ ?_ ?_
  · refine zbi _ 300 hC G0F (m0 := []) hC0 (by omega) ?_ ?_ ?_
    · simp [zan, za0, zah, zal, dom]
    · simp [Blk.ids, zah, zal]
    · simp
  · intro i hi
    by_cases hn : n < 0
    · rw [if_pos hn] at hi
      have : i = 0 \/ i = 1 \/ i = 2 := by omega
      rcases this with rfl | rfl | rfl <;> unfold jf3
      all_goals
        repeat' (first | refine gwA ?_ | (refine gwX ?_; intro Q hQ hP; simp [hC, hY, hn]; refine gwq hQ ?_; clear hQ hP Q) | (refine gwC ?_ ?_ <;> (intro hb; try (cases hb; done))))
      all_goals
        refine zbi _ 300 hC G0F (m0 := []) hC0 (by omega) ?_ ?_ ?_
        · simp [zan, za0, zah, zal, dom]
        · simp [Blk.ids, zah, zal]
        · simp
    · rw [if_neg hn] at hi; omega
  · by_cases hn : n < 0
    · rw [if_pos hn]
      have e := jd7 h hn
      unfold jf3
      repeat' (first | refine gwA ?_ | (refine gwX ?_; intro Q hQ hP; simp [hC, hY]; refine gwq hQ ?_; clear hQ hP Q) | (refine gwC ?_ ?_ <;> (intro hb; try (cases hb; done))))
      refine ⟨.inr trivial, ?_⟩
      simp [results33, e]
    · rw [if_neg hn]
      have e := jd8 h hn
      unfold jf3
      repeat' (first | refine gwA ?_ | (refine gwX ?_; intro Q hQ hP; simp [hC, hY, hn]; refine gwq hQ ?_; clear hQ hP Q) | (refine gwC ?_ ?_ <;> (intro hb; try (cases hb; done))))
      refine ⟨.inr trivial, ?_⟩
      simp [results33, e]
@[simp] theorem of2 (n : Int) (h : i64 n) (K : Value -> Prop) : zbe prog G0 33 #[.int .i64 n] K ↔ K (wd n) := zaf G0W (by kernel_rfl) (z6j n h)

theorem z7b (z : Int) : sz z = wi z 0 + 18446744073709551616 * wi z 1 + 340282366920938463463374607431768211456 * wi z 2 + 6277101735386680763835789423207666416102355444464034512896 * wi z 3 - (if ng z then 115792089237316195423570985008687907853269984665640564039457584007913129639936 else 0) := by
  have h1 := jj3 z
  have := zbk z 0; have := zbp z 0; have := zbk z 1; have := zbp z 1; have := zbk z 2; have := zbp z 2; have := zbk z 3; have := zbp z 3
  simp only [ng, decide_eq_true_eq]
  unfold sz
  rw [Int.bmod_def]
  split <;> split <;> omega
theorem zfx (z : Int) : ng z = decide (sz z < 0) := by
  have h1 := z7b z
  have := zbk z 0; have := zbp z 0; have := zbk z 1; have := zbp z 1; have := zbk z 2; have := zbp z 2; have := zbk z 3; have := zbp z 3
  rw [Bool.eq_iff_iff]
  simp only [ng, decide_eq_true_eq] at h1 |-
  split at h1 <;> omega
def eqW (a b : Int) : Nat := if wi a 3 = wi b 3 then if wi a 2 = wi b 2 then if wi a 1 = wi b 1 then if wi a 0 = wi b 0 then 4 else 3 else 2 else 1 else 0
def z4x (a b : Int) (i : Nat) : GS :=
  ⟨tsL [(2, .pointer (some ⟨200, 0, none⟩)), (3, .pointer (some ⟨208, 0, none⟩)), (5, .int .i64 (3 - i))],
   hpL G0 [(200, ⟨#[.int .u64 (wi a 0), .int .u64 (wi a 1), .int .u64 (wi a 2), .int .u64 (wi a 3)], .ty 30⟩), (208, ⟨#[.int .u64 (wi b 0), .int .u64 (wi b 1), .int .u64 (wi b 2), .int .u64 (wi b 3)], .ty 30⟩)], 300, 0⟩
theorem zzd (a b : Int) : Ret prog G0 28 #[wd a, wd b] (.int .i64 (zch (sz a) (sz b))) := by
  refine za2 G0F func28 rfl call28 (by simp) (by simp) (by simp [ntmps28]) ?_
  intro C hC hC0 hY
  repeat' (first | refine gwA ?_ | (refine gwX ?_; intro Q hQ hP; simp [hC, hY]; refine gwq hQ ?_; clear hQ hP Q) | (refine gwC ?_ ?_ <;> (intro hb; try (cases hb; done))))
  · rename_i hx
    refine ⟨.inr trivial, ?_⟩
    rw [zfx, zfx] at hx
    rw [zfx] at hb
    simp at hb hx
    have : sz a < sz b := by omega
    simp [results28, zch, this]
  · rename_i hx
    refine ⟨.inr trivial, ?_⟩
    rw [zfx, zfx] at hx
    rw [zfx] at hb
    simp at hb hx
    have h1 : ¬ sz a < sz b := by omega
    have h2 : ¬ sz a = sz b := by omega
    simp [results28, zch, h1, h2]
  · have hs : ng a = ng b := by simpa using hb
    have e1 := z7b a
    have e2 := z7b b
    rw [hs] at e1
    have := zbk a 0; have := zbp a 0; have := zbk a 1; have := zbp a 1; have := zbk a 2; have := zbp a 2; have := zbk a 3; have := zbp a 3
    have := zbk b 0; have := zbp b 0; have := zbk b 1; have := zbp b 1; have := zbk b 2; have := zbp b 2; have := zbk b 3; have := zbp b 3
    refine zc3 (eqW a b) (z4x a b) ?_ ?_ ?_
    · refine zbi _ 300 hC G0F (m0 := []) hC0 (by omega) ?_ ?_ ?_
      · simp [zan, za0, zah, zal, dom]
      · simp [Blk.ids, zah, zal]
      · simp
    · intro i hi
      have : i = 0 /\ wi a 3 = wi b 3 \/ i = 1 /\ wi a 2 = wi b 2 \/ i = 2 /\ wi a 1 = wi b 1 \/ i = 3 /\ wi a 0 = wi b 0 := by unfold eqW at hi; (repeat' split at hi) <;> omega
      rcases this with ⟨rfl, h⟩ | ⟨rfl, h⟩ | ⟨rfl, h⟩ | ⟨rfl, h⟩ <;> unfold z4x
      all_goals
        repeat' (first | refine gwA ?_ | (refine gwX ?_; intro Q hQ hP; simp [hC, hY, h]; refine gwq hQ ?_; clear hQ hP Q) | (refine gwC ?_ ?_ <;> (intro hb; try (cases hb; done))))
      all_goals
        refine zbi _ 300 hC G0F (m0 := []) hC0 (by omega) ?_ ?_ ?_
        · simp [zan, za0, zah, zal, dom, h]
        · simp [Blk.ids, zah, zal, h]
        · simp
    · unfold eqW
      (repeat' split) <;> unfold z4x
      · rename_i q3 q2 q1 q0
        repeat' (first | refine gwA ?_ | (refine gwX ?_; intro Q hQ hP; simp [hC, hY]; refine gwq hQ ?_; clear hQ hP Q) | (refine gwC ?_ ?_ <;> (intro hb; try (cases hb; done))))
        refine ⟨.inr trivial, ?_⟩
        have : sz a = sz b := by omega
        simp [results28, zch, this]
      all_goals
        rename_i h
        rcases Int.lt_or_gt_of_ne h with hlt | hlt
      all_goals
        have hnl := Int.not_lt.2 (Int.le_of_lt hlt)
        repeat' (first | refine gwA ?_ | (refine gwX ?_; intro Q hQ hP; simp [hC, hY, hlt, hnl]; refine gwq hQ ?_; clear hQ hP Q) | (refine gwC ?_ ?_ <;> (intro hb; try (cases hb; done))))
      all_goals
        refine ⟨.inr trivial, ?_⟩
        first
          | (have hc : sz a < sz b := by omega
             simp [results28, zch, hc]; done)
          | (have hc : ¬ sz a < sz b := by omega
             have hd : ¬ sz a = sz b := by omega
             simp [results28, zch, hc, hd]; done)
@[simp] theorem jm9 (a b : Int) (K : Value -> Prop) : zbe prog G0 28 #[Value.agg #[.int .u64 (wi (a) 0), .int .u64 (wi (a) 1), .int .u64 (wi (a) 2), .int .u64 (wi (a) 3)], Value.agg #[.int .u64 (wi (b) 0), .int .u64 (wi (b) 1), .int .u64 (wi (b) 2), .int .u64 (wi (b) 3)]] K ↔ K (.int .i64 (zch (sz a) (sz b))) := zaf G0W (by kernel_rfl) (zzd a b)
end Go.Gy
namespace Go.Gy
open Go Go.RowKit

def fa (n:Nat) (k:IntKind) (f:Nat->Int):Array Value:=Array.ofFn λj:Fin n=>.int k (f j)
@[simp] theorem jhh (n:Nat) (k:IntKind) (f:Nat->Int):(fa n k f).size=n:=by simp [fa]
theorem zdx (n:Nat) (k:IntKind) (f:Nat->Int) (i:Nat) (h:i<n):(fa n k f)[i]? = some (.int k (f i)):=by simp [fa,h]
@[simp] theorem z47 (n:Nat) (k:IntKind) (f:Nat->Int) (i:Nat) (h:i<(fa n k f).size):(fa n k f)[i]=.int k (f i):=by simp [fa]
theorem zkh {n:Nat} {k:IntKind} {f:Nat->Int} {x:Value} (h:x∈fa n k f):∃ m,x=.int k m:=by
 simp only [fa,Array.mem_ofFn] at h
 obtain ⟨i,rfl⟩:=h
 exact ⟨_,rfl⟩
theorem zg7 (n:Nat) (k:IntKind) (f:Nat->Int) (i:Nat) (v:Int):(fa n k f).setIfInBounds i (.int k v)=fa n k (upd f i v):=by
 apply Array.ext_getElem?
 intro j
 rw [Array.getElem?_setIfInBounds]
 by_cases hj:j<n
 ·rw [zdx _ _ _ _ hj,zdx _ _ _ _ hj]
  by_cases e:i=j
  ·subst e;simp [hj,upd]
  ·simp [e,upd,Ne.symm e]
 ·have h1:(fa n k f)[j]? = none:=by simp [fa];omega
  have h2:(fa n k (upd f i v))[j]? = none:=by simp [fa];omega
  rw [h1,h2]
  split<;>simp_all
@[simp] theorem jhg (n:Nat) (k:IntKind) (f:Nat->Int):(fa n k f).all za9 0 n=true:=by
 have:(fa n k f).all za9=true:=Array.all_eq_true_iff_forall_mem.2 λx hx=>by obtain ⟨m,rfl⟩:=zkh hx;rfl
 simpa using this
theorem zac (l:List Value) (T:TypeId) (D:Nat->Prop):(Blk.mk l.toArray T).ids D↔∀ x∈l,zah D x:=by simp [Blk.ids]
theorem zdd (n:Nat) (k:IntKind) (f:Nat->Int) (T:TypeId) (D:Nat->Prop):(Blk.mk (fa n k f) T).ids D:=by
 intro x hx
 obtain ⟨m,rfl⟩:=zkh hx
 trivial
theorem zqm (k:IntKind) (f:Nat->Int):fa 8 k f=#[.int k (f 0),.int k (f 1),.int k (f 2),.int k (f 3),.int k (f 4),.int k (f 5),.int k (f 6),.int k (f 7)]:=by
 apply Array.ext'
 simp [fa,Array.toList_ofFn,List.ofFn_succ]
theorem zjt (k:IntKind) (f:Nat->Int):fa 4 k f=#[.int k (f 0),.int k (f 1),.int k (f 2),.int k (f 3)]:=by
 apply Array.ext'
 simp [fa,Array.toList_ofFn,List.ofFn_succ]
theorem zkz:∀ (l:List Value) (c:Array Value) (o j:Nat),(zcg c o l)[j]? = if o<=j/\j<o+l.length/\j<c.size then l[j - o]? else c[j]?
 | [],c,o,j=>by simp [zcg];omega
 | v::l,c,o,j=>by
  rw [zcg,zkz l,Array.getElem?_setIfInBounds,Array.size_setIfInBounds]
  by_cases e:o=j
  ·subst e
   rw [if_neg (by omega),if_pos rfl]
   by_cases h:o<c.size
   ·simp [h]
   ·simp [h]
  ·by_cases h:o+1<=j/\j<o+1+l.length/\j<c.size
   ·rw [if_pos h,if_pos (by simp;omega)]
    have:j - o=(j - (o+1))+1:=by omega
    rw [this,List.getElem?_cons_succ]
   ·rw [if_neg h,if_neg e,if_neg (by simp;omega)]
@[simp] theorem z70 (n:Nat) (k:IntKind) (f:Nat->Int):(fa n k f).extract 0 n=fa n k f:=by
 have:n=(fa n k f).size:=by simp
 conv=>lhs;rw [this]
 simp

theorem zcv {n:Nat} {k:IntKind} {f g:Nat->Int} (h:∀ j,j<n->f j=g j):fa n k f=fa n k g:=by
 unfold fa;congr 1;funext j;rw [h j j.2]
section
variable {P:Program} {G:Hp} {V:XV}
variable {C:Ctx} {n:Nat} {d:List Deferred} {ro:Option Nat} {s:GS} {K:Exit->GS->Prop} {yc:Nat}
theorem zic (rest':List Oper) {ops:Array Oper} {base:Nat} {pn:List FuncId} {Q:Exit->Act->World->Prop} {Kn:(Nat->Value)->Hp->Nat->Prop} {Kp:Value->Prop} {hp0:Hp} {ts0:Nat->Value} {l0:List Oper} (hGF:zbg C.G) (hR:∀ y,C.Y=some y->zgq P C y) (hb:100<=base):∀ (l:List Oper) (k:Nat) (ts:Nat->Value) (hp:Hp) (tr:Tr) (yc:Nat) (wr yd:Bool) (r:Nat->Nat) (a:Act) (W:World),
  (∀ o∈l,(((∀ dd,o.dst=some dd->dd<n)/\∀ c,o.op≠.defer c)/\unC P o)/\o∈l0)->(∀ t,(∀ o∈l0,o.dst≠some t)->ts t=ts0 t)->RI C n d r ts hp yc a W->(∀ x,base+8*k<=x->hp x=none)->(wr=false->∀ k b,hp0 k=some b->hp k=some b) ->
  (∀ ts hp yc r a W,Kn ts hp yc->RI C n d r ts hp yc a W->(∀ x,base+8*(k+l.length)<=x->hp x=none)->(∀ t,(∀ o∈l0,o.dst≠some t)->ts t=ts0 t)->wpListIn (Fw P ro) 0 P ops Q rest' a W) ->
  (∀ pv ts hp yc r a W,Kp pv->(∀ k b,hp0 k=some b->hp k=some b)->(∀ t,(∀ o∈l0,o.dst≠some t)->ts t=ts0 t)->RI C n d r ts hp yc a W->Q (.panic [{ v:=pv,recovered:=false }]) a W) ->
  zlu P C.G ⟨C.Y,pn,false⟩ ops base (λts hp _ yc=>Kn ts hp yc) (λpv _=>Kp pv) k l ts hp tr yc wr yd->wpListIn (Fw P ro) 0 P ops Q (l++rest') a W
 | [],k,ts,hp,tr,yc,wr,yd,r,a,W,_,hts,hi,hn,_,hQ,_,h=>hQ ts hp yc r a W h hi (by simpa using hn) hts
 | o::l,k,ts,hp,tr,yc,wr,yd,r,a,W,hd,hts,hi,hn,hs0,hQ,hQp,h=>by
  have hlen:k+(o::l).length=(k+1)+l.length:=by simp;omega
  rw [hlen] at hQ
  refine wpListIn_step λK hK=>?_
  simp only [zlu] at h
  cases hw:zbv ops o ts with
  | none=>rw [hw] at h;exact h.elim
  | some b =>
   rw [hw] at h
   rw [zd3 hi.rel hw]
   cases b with
   | true =>
    simp only at h
    simp only [if_true]
    obtain ⟨e,h1,hs,hyd,h3⟩:=zfy hGF hi.glob h
    have hs1:(wr||!e.ws.isEmpty)=false->∀ k b,hp0 k=some b->zbb hp (e.ws++e.ns) k=some b:=λhwr k' b hk'=>by
     simp only [Bool.or_eq_false_iff] at hwr
     have e0:e.ws=[]:=by have:=hwr.2;simpa using this
     have hh:=hs0 hwr.1 k' b hk'
     rw [e0,List.nil_append,za6 (λhm=>by have:=hs.ns k' hm;rw [hn k' (by omega)] at hh;cases hh)]
     exact hh
    refine z0s hGF hR o e ts hp yc r a W 0 _ _ hi (hd o (by simp)).1.1 h1 (λx hx=>(hs.ws x hx).2) (λx hx=>?_) (λr' a' W' hpn hi'=>hK _ _ ?_) (λpv W' yc' hpn hi'=>?_)
    ·have:=hs.ns x hx;exact ⟨hn x (by omega),by omega⟩
    ·rw [hpn] at h3
     refine zic rest' hGF hR hb l (k+1) _ _ _ _ _ _ r' a' W' (λo ho=>hd o (List.mem_cons_of_mem _ ho)) (λt ht=>(zex (ht o (hd o (by simp)).2)).trans (hts t ht)) hi' (λx hx=>?_) hs1 hQ hQp h3
     rw [za6 (λhm=>?_)]
     ·exact hn x (by omega)
     ·have:x∈zab e.ws\/x∈zab e.ns:=by simpa [zab] using hm
      rcases this with h|h
      ·exact (hs.ws x h).2.1 (hn x (by omega))
      ·have:=hs.ns x h;omega
    ·rw [hpn] at h3
     obtain ⟨_,hwr,hkp⟩:=h3
     simp only [Bool.or_eq_false_iff] at hwr
     exact hQp pv ts hp yc' r a W' hkp (hs0 hwr.1) hts hi'
   | false =>
    simp only at h
    simp only [Bool.false_eq_true,if_false]
    exact ⟨zq2 (Y:=none) o ts r _ a W hi.rel ⟨h.1,(hd o (by simp)).1.2⟩,hK _ _ (zic rest' hGF hR hb l (k+1) _ _ _ _ _ _ r _ W (λo ho=>hd o (List.mem_cons_of_mem _ ho)) (λt ht=>(zex (ht o (hd o (by simp)).2)).trans (hts t ht)) (hi.put_undef (hd o (by simp)).1.1.1) (λx hx=>hn x (by omega)) hs0 hQ hQp h.2)⟩

theorem zpz {o:Oper} {a:Act} {W:World} {R Rp:Value->World->Prop} {x y:Operand} {t e:TypeId} {i:TypeInfo} {z:Value} {g sl cap g2 off2 m m':Nat} {cur:Array Value} {nw:List Value}
  (ho:o.op=.call { callee:=.builtin .append,args:=#[x,y],argTypes:=#[t,t] }) (ht:P.underlying t=some (.slice e)) (hi:P.info? e=some i) (hz:i.zero=some z)
  (hx:a.eval x=.slice (some ⟨g,0,none⟩) sl cap) (hg:W.heap[g]? = some (.cells cur e (0,0))) (hy:a.eval y=.slice (some ⟨g2,off2,none⟩) m m') (hl:nw.length=m*i.size) (hn:∀ j u,nw[j]? = some u->W.cell? ((⟨g2,off2,none⟩:Addr).add j)=some u)
  (hc:cap*i.size<=cur.size) (hsl:sl<=cap) (hb1:sl+m<=maxLen) (hb2:(sl+m)*i.bytes<=140737488355328) (h1:∀ u∈nw,u.oneCell'=true)
  (room:sl+m<=cap->R (.slice (some ⟨g,0,none⟩) (sl+m) cap) (W.setRow g (cur.toList.take (sl*i.size)++nw++cur.toList.drop (sl*i.size+nw.length)).toArray))
  (grow:cap<sl+m->∀ cap',sl+m<=cap'->R (.slice (some ⟨W.heap.size,0,none⟩) (sl+m) cap') (W.drew.alloc (.cells ((cur.toList.take (sl*i.size)).toArray++nw.toArray++Builtin.zeroCells z.cells (cap' - (sl+m))) e))):zjx P o a W R Rp:=by
 unfold zjx
 by_cases hr:sl+m<=cap
 ·have hfit:sl*i.size+nw.length<=cur.size:=by
   rw [hl,<-Nat.add_mul];exact Nat.le_trans (Nat.mul_le_mul_right _ hr) hc
  have h:=run_append_room (P:=P) W t o.type e i ht hi g sl cap cur hg ⟨g2,off2,none⟩ m m' _ hl hn h1 hr hfit
  simp only [execOp,ho,resolve,Sem.run_bind,Sem.run_pure,Result.andThen_ok,invoke,builtin,List.map_toArray,List.map_cons,List.map_nil,hx,hy,h]
  exact room hr
 ·have hlo:(cur.toList.take (sl*i.size)).length=sl*i.size:=by
   have:=Nat.mul_le_mul_right i.size hsl
   simp [List.length_take];omega
  have hold:∀ j u,(cur.toList.take (sl*i.size))[j]? = some u->W.cell? ((⟨g,0,none⟩:Addr).add j)=some u:=λj u hj=>by
   rw [List.getElem?_take] at hj
   split at hj
   ·rw [Addr.add_lit]
    simp only [World.cell?,hg,Nat.zero_add]
    simpa using hj
   ·cases hj
  have h:=run_append_grow (P:=P) W t o.type e i z ht hi hz ⟨g,0,none⟩ sl cap _ hlo hold ⟨g2,off2,none⟩ m m' _ hl hn (by omega) (by simp only [maxLen] at hb1;omega) (growslice_fits (by omega) hb2)
  simp only [execOp,ho,resolve,Sem.run_bind,Sem.run_pure,Result.andThen_ok,invoke,builtin,List.map_toArray,List.map_cons,List.map_nil,hx,hy,h]
  exact grow (by omega) _ (grownCap_ge _ _ _ _)
theorem zqf {r:Nat->Nat} {b:Blk} {W:World} {g q:Nat} {u:Value} (hg:W.heap[g]? = some (b.obj r)) (hq:b.c[q]? = some u) (hf:za9 u=true) (hrd:b.T.rd=true):W.cell? ⟨g,q,none⟩=some u:=by
 obtain ⟨c,T⟩:=b
 cases T with
 | ty t =>
  simp only [World.cell?,hg,Blk.obj,Array.getElem?_map]
  rw [hq];simp [zcd hf]
 | raw t fr=>simpa [World.cell?,hg,Blk.obj] using hq
 | mp=>cases hrd
theorem zjq {r:Nat->Nat} {ts:Nat->Value} {hp:Hp} {a:Act} {W:World} {ro:Option Nat} {mn:Nat} {o:Oper} {tx ty:Tmp} {t e:TypeId} {i:TypeInfo} {z:Value} {k j off2 sl cap m m' nk:Nat} {b b2:Blk} {nw:List Value} {next:Act->World->Prop} {Q:Exit->Act->World->Prop}
  (h:RI C n d r ts hp yc a W) (hd:∀ dd,o.dst=some dd->dd<n)
  (ho:o.op=.call { callee:=.builtin .append,args:=#[.tmp tx,.tmp ty],argTypes:=#[t,t] }) (ht:P.underlying t=some (.slice e)) (hi:P.info? e=some i) (hz:i.zero=some z)
  (hx:ts tx=.slice (some ⟨k,0,none⟩) sl cap) (hk:100<=k) (hb:hp k=some b) (hbT:b.T=.ty e) (hbf:∀ x∈b.c,za9 x=true)
  (hy:ts ty=.slice (some ⟨j,off2,none⟩) m m') (hb2:hp j=some b2) (hrd:b2.T.rd=true) (hnl:nw.length=m*i.size) (hnw:∀ q u,nw[q]? = some u->b2.c[off2+q]? = some u) (hb2f:∀ x∈nw,za9 x=true) (h1:∀ u∈nw,u.oneCell'=true) (hzf:∀ c,∀ x∈Builtin.zeroCells z.cells c,za9 x=true)
  (hc:cap*i.size<=b.c.size) (hsl:sl<=cap) (hs1:sl+m<=maxLen) (hs2:(sl+m)*i.bytes<=140737488355328) (hnk:hp nk=none/\100<=nk)
  (room:sl+m<=cap->∀ r' a' W',RI C n d r' (zcq ts o.dst (.slice (some ⟨k,0,none⟩) (sl+m) cap)) (upd hp k (some ⟨(b.c.toList.take (sl*i.size)++nw++b.c.toList.drop (sl*i.size+nw.length)).toArray,e⟩)) yc a' W'->next a' W')
  (grow:cap<sl+m->∀ cap',sl+m<=cap'->∀ r' a' W',RI C n d r' (zcq ts o.dst (.slice (some ⟨nk,0,none⟩) (sl+m) cap')) (upd hp nk (some ⟨(b.c.toList.take (sl*i.size)).toArray++nw.toArray++Builtin.zeroCells z.cells (cap' - (sl+m)),e⟩)) yc a' W'->next a' W') :
  o.wpIn (Fw P ro) mn P a W next Q:=by
 obtain ⟨bc,bT⟩:=b
 simp only at hbT
 subst hbT
 simp only at hbf hc room grow
 have hg:W.heap[r k]? = some (.cells bc e (0,0)):=by
  have:=(h.sat k _ hb).1
  rw [Blk.obj_flat hbf] at this
  exact this
 have hn:∀ q u,nw[q]? = some u->W.cell? ((⟨r j,off2,none⟩:Addr).add q)=some u:=λq u hq=>by
  rw [Addr.add_lit]
  exact zqf (h.sat j b2 hb2).1 (hnw q u hq) (hb2f u (List.mem_of_getElem? hq)) hrd
 have ex:a.eval (.tmp tx)=.slice (some ⟨r k,0,none⟩) sl cap:=by
  have:=(h.rel tx).resolve_left (by rw [hx];simp [zcj])
  rw [hx] at this
  exact this.1
 have ey:a.eval (.tmp ty)=.slice (some ⟨r j,off2,none⟩) m m':=by
  have:=(h.rel ty).resolve_left (by rw [hy];simp [zcj])
  rw [hy] at this
  exact this.1
 have hdk:dom hp k:=by unfold dom;rw [hb];simp
 have fo:∀ x∈bc.toList.take (sl*i.size),za9 x=true:=λx hx=>hbf x (by simpa using List.mem_of_mem_take hx)
 have fn:∀ x∈nw,za9 x=true:=hb2f
 refine zdj (by rw [ho];intro c;simp) (zpz (R:=λu W'=>next (a.put o.dst u) W') (Rp:=λ_ _=>False) ho ht hi hz ex hg ey hnl hn hc hsl hs1 hs2 h1 (λhr=>?_) (λhr cap' hcap=>?_)) (λu W' h=>h) (λpv W' h=>h.elim)
 ·have hf:∀ x∈(bc.toList.take (sl*i.size)++nw++bc.toList.drop (sl*i.size+nw.length)).toArray,za9 x=true:=λx hx=>by
   simp only [List.mem_toArray,List.mem_append] at hx
   rcases hx with (hx|hx)|hx
   ·exact fo x hx
   ·exact fn x hx
   ·exact hbf x (by simpa using List.mem_of_mem_drop hx)
  refine room hr r _ _ (h.after (e:=⟨.slice (some ⟨k,0,none⟩) (sl+m) cap,[],[(k,⟨_,.ty e⟩)],[],none,false⟩) hd (λ_ _=>rfl) (by simp [zan,za0,zah,zal,zcu,hdk]) ⟨rfl,rfl,rfl,by simp,λq hq hnq=>?_,λp hp1=>?_,by simp,by simp⟩ (by simp [zab,hdk,hk]) (by simp [zab]))
  ·exact setRow_other W (r k) q _ (λe=>hnq _ (List.mem_singleton.2 rfl) e.symm)
  ·simp only [List.append_nil,List.mem_singleton] at hp1
   subst hp1
   refine ⟨?_,Blk.flat_ids hf⟩
   rw [Blk.obj_flat hf]
   exact setRow_heap W (r k) bc _ e (0,0) hg
 ·have hf:∀ x∈(bc.toList.take (sl*i.size)).toArray++nw.toArray++Builtin.zeroCells z.cells (cap' - (sl+m)),za9 x=true:=λx hx=>by
   simp only [Array.mem_append,List.mem_toArray] at hx
   rcases hx with (hx|hx)|hx
   ·exact fo x hx
   ·exact fn x hx
   ·exact hzf _ x hx
  have hnd:¬dom hp nk:=by unfold dom;simp [hnk.1]
  have hr':∀ q,dom hp q->upd r nk W.heap.size q=r q:=λq hq=>zaa _ _ (λe=>hnd (e▸hq))
  have hv:(Value.slice (some ⟨W.heap.size,0,none⟩) (sl+m) cap')=ren (upd r nk W.heap.size) (.slice (some ⟨nk,0,none⟩) (sl+m) cap'):=by simp [ren,zay,zaj,zam,za4]
  rw [hv]
  refine grow hr cap' hcap (upd r nk W.heap.size) _ _ (h.drew.after (e:=⟨.slice (some ⟨nk,0,none⟩) (sl+m) cap',[],[],[(nk,⟨_,.ty e⟩)],none,false⟩) hd hr' (by simp [zan,za0,zah,zal,zcu,zab]) ⟨rfl,rfl,rfl,(by show W.heap.size<=(W.heap.push _).size;simp),λq hq _=>?_,λp hp1=>?_,λp hp1=>?_,by simp⟩ (by simp [zab]) (by simp [zab,hnk]))
  ·exact Below.heap_alloc _ _ _ hq
  ·simp only [List.nil_append,List.mem_singleton] at hp1
   subst hp1
   refine ⟨?_,Blk.flat_ids hf⟩
   rw [Blk.obj_flat hf]
   simp only [za4]
   exact heap_alloc_new W.drew _
  ·simp only [List.mem_singleton] at hp1
   subst hp1
   show W.heap.size<=upd r nk W.heap.size nk
   rw [za4]
   exact Nat.le_refl _
def jg4 (P:Program) (o:Oper) (ts:Nat->Value) (hp:Hp) (nk:Nat) (next:(Nat->Value)->Hp->Prop):Prop :=
 ∃ (tx ty:Tmp) (t e:TypeId) (i:TypeInfo) (z:Value) (k j off2 sl cap m m':Nat) (b b2:Blk) (nw:List Value),
  o.op=.call { callee:=.builtin .append,args:=#[.tmp tx,.tmp ty],argTypes:=#[t,t] }/\P.underlying t=some (.slice e)/\P.info? e=some i/\i.zero=some z /\
  ts tx=.slice (some ⟨k,0,none⟩) sl cap/\100<=k/\hp k=some b/\b.T=.ty e/\(∀ x∈b.c,za9 x=true) /\
  ts ty=.slice (some ⟨j,off2,none⟩) m m'/\hp j=some b2/\b2.T.rd=true/\nw.length=m*i.size/\(∀ q u,nw[q]? = some u->b2.c[off2+q]? = some u)/\(∀ x∈nw,za9 x=true)/\(∀ u∈nw,u.oneCell'=true)/\(∀ c,∀ x∈Builtin.zeroCells z.cells c,za9 x=true) /\
  cap*i.size<=b.c.size/\sl<=cap/\sl+m<=maxLen/\(sl+m)*i.bytes<=140737488355328 /\
  (sl+m<=cap->next (zcq ts o.dst (.slice (some ⟨k,0,none⟩) (sl+m) cap)) (upd hp k (some ⟨(b.c.toList.take (sl*i.size)++nw++b.c.toList.drop (sl*i.size+nw.length)).toArray,e⟩))) /\
  (cap<sl+m->∀ cap',sl+m<=cap'->next (zcq ts o.dst (.slice (some ⟨nk,0,none⟩) (sl+m) cap')) (upd hp nk (some ⟨(b.c.toList.take (sl*i.size)).toArray++nw.toArray++Builtin.zeroCells z.cells (cap' - (sl+m)),e⟩)))
end

theorem zob (r ρ:Nat->Nat) (v:Value):zam r (zam ρ v)=zam (λk=>r (ρ k)) v:=by
 cases v with
 | pointer p=>cases p<;>rfl
 | slice p _ _=>cases p<;>rfl
 | map p=>cases p<;>rfl
 | _=>rfl
theorem zf0 (r ρ:Nat->Nat) (v:Value):zaj r (zaj ρ v)=zaj (λk=>r (ρ k)) v:=by
 cases v with
 | func f a b=>simp only [zaj,Array.map_map];congr 1<;>(congr 1;funext x;exact zob r ρ x)
 | iface t v=>simp only [zaj,zob]
 | pointer p=>cases p<;>rfl
 | slice p _ _=>cases p<;>rfl
 | map p=>cases p<;>rfl
 | _=>rfl
theorem zhi (r ρ:Nat->Nat) (v:Value):zay r (zay ρ v)=zay (λk=>r (ρ k)) v:=by
 cases v with
 | agg cs=>simp only [zay,Array.map_map];congr 2;funext x;exact zf0 r ρ x
 | func f a b=>exact zf0 r ρ (.func f a b)
 | iface t v=>exact zf0 r ρ (.iface t v)
 | pointer p=>cases p<;>rfl
 | slice p _ _=>cases p<;>rfl
 | map p=>cases p<;>rfl
 | _=>rfl
theorem zcc (r ρ:Nat->Nat) (v:Value):ren r (ren ρ v)=ren (λk=>r (ρ k)) v:=by
 cases v with
 | tuple vs=>simp only [ren,Array.map_map];congr 2;funext x;exact zhi r ρ x
 | agg cs=>exact zhi r ρ (.agg cs)
 | func f a b=>exact zhi r ρ (.func f a b)
 | iface t v=>exact zhi r ρ (.iface t v)
 | pointer p=>cases p<;>rfl
 | slice p _ _=>cases p<;>rfl
 | map p=>cases p<;>rfl
 | _=>rfl

section
variable {P:Program} {G:Hp}

theorem zq8 {f:FuncId} {fn:Func} {c:Code} {args:Array Value} {hp:Hp} {rs:List Nat} {v:Value} {ns:List (Nat×Blk)} {B:Nat} (ρ:Nat->Nat) (hGF:zbg G) (hG:∀ k,k<100->hp k=G k) (hf:P.funcs[f]? = some fn) (hb:fn.body=some c) (hcall:∀ a w,(callFunc f a).run P w=.ok (.enter f a) w)
  (ha:∀ x∈args,zan (dom (rst hp rs)) x) (hcl:∀ k b,rst hp rs k=some b->b.ids (dom (rst hp rs))) (hfit:(Res.new v ns).fits hp rs) (hn:args.size<=fn.ntmps) (hB:100<=B) (hfree:∀ x,B<=x->rst hp rs x=none)
  (hρ0:∀ k,dom (rst hp rs) k->ρ k=k) (hρ:∀ p∈ns,¬dom (rst hp rs) (ρ p.1)/\100<=ρ p.1) (hinj:∀ p∈ns,∀ q∈ns,ρ p.1=ρ q.1->p.1=q.1) (hbl:∀ p∈ns,p.2.ids (dom (rst hp rs)))
  (h:∀ C:Ctx,C.G=G->C.hp0=rst hp rs->C.Y=none->GW P C fn.ntmps [] none c ⟨λt=>args.getD t undef,rst hp rs,B,0⟩ λe s=>(e=.normal\/e=.ret)/\zmq P fn.results.toList s.ts s.hp=some (ren ρ v) /\
   (∀ p∈ns,s.hp (ρ p.1)=some p.2)/\∀ k,dom (rst hp rs) k->s.hp k=rst hp rs k):Fun P G f args hp rs (.new v ns):=by
 refine ⟨hcall,ha,hcl,hfit,λr W hgok hsat hinjr hlow=>callsIn_of_wp_marks hf hb ⟨fn,hf⟩ ?_⟩
 have ltW:∀ k,dom (rst hp rs) k->r k<W.heap.size:=λk hk=>by
  unfold dom at hk
  cases hb:rst hp rs k with
  | none=>exact absurd hb hk
  | some b=>exact (Array.getElem?_eq_some_iff.1 (hsat k b hb).1).1
 let im:Nat->Prop:=λj=>∃ i,dom (rst hp rs) i/\r i=j
 let C:Ctx:=⟨zdg W im,rst hp rs,r,G,none⟩
 have hi:GI P C fn.ntmps [] r ⟨λt=>args.getD t undef,rst hp rs,B,0⟩ { tmps:=args.map (ren r)++Array.replicate (fn.ntmps - (args.map (ren r)).size) undef,defers:=[] } W:=by
  refine ⟨⟨by simp;omega,λt=>?_,hsat,hinjr,⟨λk=>k<W.heap.size/\¬im k,[],⟨λ_=>Iff.rfl,rfl,rfl,rfl,Nat.le_refl _,λ_ _=>rfl⟩,λk hk=>hk.1,λi hi _ hS=>hS.2 ⟨i,hi,rfl⟩,⟨rfl,List.nodup_nil⟩,by simp⟩,
   λi hi=>⟨hi,rfl⟩,λk hk=>?_,hlow⟩,hfree,hB,hGF,λy hy=>by cases hy⟩
  ·right
   dsimp only
   by_cases ht:t<args.size
   ·have hm:args[t]∈args:=Array.getElem_mem ht
    have e:args.getD t undef=args[t]:=by simp [Array.getD,ht]
    rw [e]
    refine ⟨?_,ha _ hm⟩
    have:t<(args.map (ren r)).size:=by simpa using ht
    simp [Array.getElem?_append_left this,ht]
   ·have e:args.getD t undef=undef:=by simp [Array.getElem?_eq_none (Nat.le_of_not_lt ht)]
    rw [e]
    refine ⟨?_,zcl _⟩
    rw [zb9]
    simp only [Array.getD_eq_getD_getElem?]
    rw [Array.getElem?_append_right (by simpa using Nat.le_of_not_lt ht),Array.getElem?_replicate]
    split<;>rfl
  ·show rst hp rs k=G k
   simp [rst,hk,hG k hk]
 refine wpIn_mono (h C rfl rfl rfl r _ W hi) ?_
 rintro e a' W' ⟨s',r',⟨he,hr,hns,hhp⟩,hi'⟩
 obtain ⟨S,ms,⟨hS,os,tape,output,size,hsame⟩,hS1,hS2,⟨hdef,hnd⟩,hms⟩:=hi'.ri.ext
 have hkeep:∀ i,dom (rst hp rs) i->dom s'.hp i/\r' i=r i:=hi'.ri.keep
 have mine:∀ W'':World,(∀ k,k∉ms->W''.heap[k]? = W'.heap[k]?)->∀ i b,s'.hp i=some b->W''.heap[r' i]? = some (b.obj r'):=λW'' hW i b hb=>by
  rw [hW _ (λhm=>hi'.ri.ne_mark (by unfold dom;rw [hb];simp) (hms _ hm).1 rfl)]
  exact (hi'.ri.sat i b hb).1
 have hend:∀ W'':World,W''.heap.size=W'.heap.size->W''.os=W'.os->W''.tape=W'.tape->W''.output=W'.output->(∀ k,k∉ms->W''.heap[k]? = W'.heap[k]?) ->
   LeavesIn (Fw P none) 0 P fn a'.tmps ((Res.new v ns).holds r (dom (rst hp rs)) W) [] .returning W'':=λW'' e1 e2 e3 e4 e5=>by
  have hsat':Sat r' (dom s'.hp) s'.hp W'':=λk b hk=>⟨mine W'' e5 k b hk,(hi'.ri.sat k b hk).2⟩
  have hrun:=zc8 (fn:=fn) hi'.ri.rel hsat' hr
  rw [zcc] at hrun
  refine ⟨_,hrun,λ_=>⟨λk=>r' (ρ k),λk hk=>?_,rfl,?_⟩⟩
  ·simp only [hρ0 k hk];exact (hkeep k hk).2
  ·have hag:∀ k,dom (rst hp rs) k->r' (ρ k)=r' k:=λk hk=>by rw [hρ0 k hk]
   refine ⟨e2.trans os,e3.trans tape,e4.trans output,by rw [e1];exact size,λk hk _=>?_,λp hp1=>?_,λp hp1=>?_,λp hp1 q hq1 hpq=>?_⟩
   ·by_cases hk':im k
    ·obtain ⟨i,hi1,rfl⟩:=hk'
     cases hb:rst hp rs i with
     | none=>exact absurd hb hi1
     | some b =>
      have e:s'.hp i=some b:=(hhp i hi1).trans hb
      have:=mine W'' e5 i b e
      rw [(hkeep i hi1).2,Blk.obj_congr (λk hk=>(hkeep k hk).2) (hcl i b hb)] at this
      rw [this,(hsat i b hb).1]
    ·have hSk:S k:=(hS k).2 ⟨hk,hk'⟩
     rw [e5 k (λhm=>(hms k hm).2.1 hSk)]
     exact hsame k hSk
   ·have hp1:p∈ns:=by simpa using hp1
    refine ⟨?_,Blk.ids_mono (λk hk=>.inl hk) (hbl p hp1)⟩
    have:=mine W'' e5 _ _ (hns p hp1)
    rw [Blk.obj_congr (r:=r') hag (hbl p hp1)]
    exact this
   ·have hd:dom s'.hp (ρ p.1):=by unfold dom;rw [hns p hp1];simp
    have h1:=hS2 _ hd (hρ p hp1).2
    rw [hS] at h1
    refine Classical.byContradiction λhlt=>h1 ⟨by omega,λ⟨i,hi1,e⟩=>?_⟩
    have:=hi'.ri.inj i (ρ p.1) (hkeep i hi1).1 hd ((hkeep i hi1).2.trans e)
    exact (hρ p hp1).1 (this▸hi1)
   ·have hd:∀ x∈ns,dom s'.hp (ρ x.1):=λx hx=>by unfold dom;rw [hns x hx];simp
    exact hinj p hp1 q hq1 (hi'.ri.inj _ _ (hd p hp1) (hd q hq1) hpq)
 rcases he with rfl|rfl
 ·show LeavesInM _ _ _ _ _ _ a'.defers _ _
  rw [hdef,List.append_nil]
  exact zcx (by simp) ms W' hnd (λD hD=>(hms D hD).1) hend
 ·show LeavesInM _ _ _ _ _ _ a'.defers _ _
  rw [hdef,List.append_nil]
  exact zcx (by simp) ms W' hnd (λD hD=>(hms D hD).1) hend

def Blk.rn (ρ:Nat->Nat) (b:Blk):Blk:=match b.T with
 | .ty t=>⟨b.c.map (zaj ρ),.ty t⟩
 | .raw _ _=>b
 | .mp=>⟨b.c.map (zaj ρ),.mp⟩
theorem Blk.rn_obj (r ρ:Nat->Nat) (b:Blk):(b.rn ρ).obj r=b.obj (λk=>r (ρ k)):=by
 obtain ⟨c,T⟩:=b
 cases T with
 | raw t fr=>rfl
 | ty t =>
  simp only [Blk.rn,Blk.obj,Array.map_map]
  congr 2
  funext x
  exact zf0 r ρ x
 | mp =>
  simp only [Blk.rn,Blk.obj,Array.map_map]
  congr 2
  funext x
  exact zf0 r ρ x
theorem Blk.rn_flat {ρ:Nat->Nat} {b:Blk} (h:∀ x∈b.c,za9 x=true):b.rn ρ=b:=by
 obtain ⟨c,T⟩:=b
 cases T with
 | raw t fr=>rfl
 | ty t=>simp only [Blk.rn];rw [zbm (λx hx=>zcd (h x hx))]
 | mp=>simp only [Blk.rn];rw [zbm (λx hx=>zcd (h x hx))]
theorem zh0 {ρ:Nat->Nat} {D D':Nat->Prop} (h:∀ k,D k->D' (ρ k)) {v:Value} (hv:zal D v):zal D' (zam ρ v):=by
 cases v with
 | pointer p=>cases p<;>first|exact h _ hv|trivial
 | slice p _ _=>cases p<;>first|exact h _ hv|trivial
 | map p=>cases p<;>first|exact h _ hv|trivial
 | _=>trivial
theorem zjg {ρ:Nat->Nat} {D D':Nat->Prop} (h:∀ k,D k->D' (ρ k)) {v:Value} (hv:zah D v):zah D' (zaj ρ v):=by
 cases v with
 | func f a b =>
  refine ⟨λx hx=>?_,λx hx=>?_⟩
  ·obtain ⟨y,hy,rfl⟩:=Array.mem_map.1 hx;exact zh0 h (hv.1 y hy)
  ·obtain ⟨y,hy,rfl⟩:=Array.mem_map.1 hx;exact zh0 h (hv.2 y hy)
 | iface t v=>exact zh0 (v:=v) h hv
 | pointer p=>cases p<;>first|exact h _ hv|trivial
 | slice p _ _=>cases p<;>first|exact h _ hv|trivial
 | map p=>cases p<;>first|exact h _ hv|trivial
 | _=>trivial
theorem Blk.ids_rn {ρ:Nat->Nat} {D D':Nat->Prop} (h:∀ k,D k->D' (ρ k)) {b:Blk} (hb:b.ids D):(b.rn ρ).ids D':=by
 obtain ⟨c,T⟩:=b
 cases T with
 | raw t fr=>trivial
 | ty t =>
  intro x hx
  obtain ⟨y,hy,rfl⟩:=Array.mem_map.1 hx
  exact zjg h (hb y hy)
 | mp =>
  intro x hx
  obtain ⟨y,hy,rfl⟩:=Array.mem_map.1 hx
  exact zjg h (hb y hy)
structure Rn (ρ:Nat->Nat) (hp hp':Hp) (rs:List Nat):Prop where
 low:∀ k,k<100->ρ k=k/\hp' k=hp k
 big:∀ k∈rs,100<=k->100<=ρ k
 at':∀ k∈rs,100<=k->∃ b,hp k=some b/\hp' (ρ k)=some (b.rn ρ)
 inj:∀ k∈rs,∀ l∈rs,100<=k->100<=l->ρ k=ρ l->k=l
theorem Rn.dom1 {ρ:Nat->Nat} {hp hp':Hp} {rs:List Nat} (h:Rn ρ hp hp' rs) {k:Nat} (hk:dom (rst hp rs) k):dom (rst hp' (rs.map ρ)) (ρ k):=by
 unfold dom rst at *
 by_cases h1:k<100
 ·have:=h.low k h1
  rw [this.1]
  simp only [h1,true_or,if_true] at hk |-
  rw [this.2];exact hk
 ·have hm:k∈rs:=by
   by_cases hm:k∈rs
   ·exact hm
   ·simp [h1,hm] at hk
  obtain ⟨b,e1,e2⟩:=h.at' k hm (by omega)
  have:ρ k∈rs.map ρ:=List.mem_map.2 ⟨k,hm,rfl⟩
  simp [this,e2]
theorem IterX.rn {pn:Option Value} {f:FuncId} {caps:Array Value} {hp hp':Hp} {rs:List Nat} {xs:List (Array Value)} (ρ:Nat->Nat) (hGF:zbg G) (hG:∀ k,k<100->hp k=G k) (h:Rn ρ hp hp' rs) (hi:IterX pn P G f caps hp rs xs):IterX pn P G f (caps.map (zam ρ)) hp' (rs.map ρ) xs:=by
 have hpl:∀ x,zbj x=true->zbj (zam ρ x)=true:=λx hx=>by
  cases x with
  | pointer p=>cases p<;>rfl
  | slice p _ _=>cases p<;>rfl
  | map p=>cases p<;>rfl
  | _=>exact hx
 have bflat:∀ k b,k<100->hp k=some b->b.rn ρ=b:=λk b hk hb=>by
  have hg:G k=some b:=(hG k hk).symm.trans hb
  exact Blk.rn_flat (hGF k b hg).2
 have back:∀ k b,rst hp' (rs.map ρ) k=some b->∃ q c,rst hp rs q=some c/\ρ q=k/\b=c.rn ρ:=λk b hb=>by
  unfold rst at hb
  by_cases h1:k<100
  ·simp only [h1,true_or,if_true] at hb
   have hl:=h.low k h1
   rw [hl.2] at hb
   exact ⟨k,b,by simp [rst,h1,hb],hl.1,(bflat k b h1 hb).symm⟩
  ·by_cases hm:k∈rs.map ρ
   ·obtain ⟨q,hq,rfl⟩:=List.mem_map.1 hm
    simp only [hm,or_true,if_true] at hb
    have hq1:100<=q:=by
     by_cases hq1:100<=q
     ·exact hq1
     ·exact absurd (by rw [(h.low q (by omega)).1];omega) h1
    obtain ⟨c,e1,e2⟩:=h.at' q hq hq1
    rw [e2] at hb;cases hb
    exact ⟨q,c,by simp [rst,hq,e1],rfl,rfl⟩
   ·simp [h1,hm] at hb
 refine ⟨hi.enter,λx hx=>?_,λk b hb=>?_,λE l stop r S W hgok hsat hinj hlow hlen hR hX hS hdis=>?_⟩
 ·obtain ⟨y,hy,rfl⟩:=Array.mem_map.1 hx
  have:=hi.cids y hy
  exact ⟨hpl y this.1,(zbs (hpl y this.1)).2 (zh0 (λk hk=>h.dom1 hk) ((zbs this.1).1 this.2))⟩
 ·obtain ⟨q,c,h1,rfl,rfl⟩:=back k b hb
  exact Blk.ids_rn (λk hk=>h.dom1 hk) (hi.closed q c h1)
 ·have hcap:(caps.map (zam ρ)).map (ren r)=caps.map (ren λk=>r (ρ k)):=by
   rw [Array.map_map]
   refine Array.map_congr_left λx hx=>?_
   have:=(hi.cids x hx).1
   simp only [Function.comp]
   rw [<-zb5 (r:=ρ) this,zcc]
  rw [hcap]
  refine hi.run E l stop (λk=>r (ρ k)) S W hgok (λk b hk=>⟨?_,hi.closed k b hk⟩) (λk l hk hl e=>?_) (λk hk hd=>?_) hlen hR hX hS (λi hd h1=>?_)
  ·have hd:dom (rst hp rs) k:=by unfold dom;rw [hk];simp
   have hd':=h.dom1 hd
   unfold dom at hd'
   cases hb:rst hp' (rs.map ρ) (ρ k) with
   | none=>exact absurd hb hd'
   | some b' =>
    have e:b'=b.rn ρ:=by
     unfold rst at hb hk
     by_cases h1:k<100
     ·have hl:=h.low k h1
      simp only [h1,true_or,if_true] at hk
      rw [hl.1] at hb
      simp only [h1,true_or,if_true] at hb
      rw [hl.2,hk] at hb
      cases hb
      exact (bflat k b h1 hk).symm
     ·have hm:k∈rs:=by
       by_cases hm:k∈rs
       ·exact hm
       ·simp [h1,hm] at hk
      simp only [hm,or_true,if_true] at hk
      obtain ⟨c,e1,e2⟩:=h.at' k hm (by omega)
      rw [hk] at e1;cases e1
      have hm':ρ k∈rs.map ρ:=List.mem_map.2 ⟨k,hm,rfl⟩
      simp only [hm',or_true,if_true] at hb
      rw [e2] at hb;cases hb;rfl
    have:=(hsat _ b' hb).1
    rw [e,Blk.rn_obj] at this
    exact this
  ·have e2:=hinj _ _ (h.dom1 hk) (h.dom1 hl) e
   have mem:∀ k,dom (rst hp rs) k->100<=k->k∈rs:=λk hk h1=>by
    unfold dom rst at hk
    by_cases hm:k∈rs
    ·exact hm
    ·simp [hm] at hk;omega
   by_cases h1:k<100
   ·by_cases h2:l<100
    ·rw [(h.low k h1).1,(h.low l h2).1] at e2;exact e2
    ·have:=h.big l (mem l hl (by omega)) (by omega)
     rw [(h.low k h1).1] at e2;omega
   ·by_cases h2:l<100
    ·have:=h.big k (mem k hk (by omega)) (by omega)
     rw [(h.low l h2).1] at e2;omega
    ·exact h.inj k (mem k hk (by omega)) l (mem l hl (by omega)) (by omega) (by omega) e2
  ·show r (ρ k)=k
   have:=h.dom1 hd
   rw [(h.low k hk).1] at this |-
   exact hlow k hk this
  ·refine hdis _ (h.dom1 hd) (h.big i ?_ h1)
   unfold dom rst at hd
   by_cases hm:i∈rs
   ·exact hm
   ·simp [hm] at hd;omega
end
section
variable {P:Program} {C:Ctx} {n:Nat} {d:List Deferred} {ro:Option Nat} {s:GS} {K:Exit->GS->Prop}
structure WeakR (C:Ctx) (ρ:Nat->Nat) (s s':GS):Prop where
 ts:∀ t,s'.ts t=zcj\/(s.ts t=ren ρ (s'.ts t)/\s.ts t≠zcj/\zan (dom s'.hp) (s'.ts t))
 hp:∀ k b,s'.hp k=some b->100<=k->s.hp (ρ k)=some (b.rn ρ)/\100<=ρ k
 ids:∀ k b,s'.hp k=some b->b.ids (dom s'.hp)
 inj:∀ k l,dom s'.hp k->dom s'.hp l->ρ k=ρ l->k=l
 id:∀ k,k<100->ρ k=k
 rest:∀ k b,k<100->C.G k=some b->b.rn ρ=b
 keep:∀ k,100<=k->dom C.hp0 k->dom s'.hp k/\ρ k=k
 glob:∀ k,k<100->s'.hp k=C.G k
 yc:s'.yc=s.yc
 free:∀ x,s'.B<=x->s'.hp x=none
 low:100<=s'.B
theorem GI.rename {ρ:Nat->Nat} {r:Nat->Nat} {a:Act} {W:World} {s':GS} (h:GI P C n d r s a W) (hw:WeakR C ρ s s'):GI P C n d (λk=>r (ρ k)) s' a W:=by
 have sub:∀ k b,s'.hp k=some b->s.hp (ρ k)=some (b.rn ρ):=λk b hb=>by
  by_cases hk:100<=k
  ·exact (hw.hp k b hb hk).1
  ·have hg:C.G k=some b:=(hw.glob k (by omega)).symm.trans hb
   rw [hw.id k (by omega),hw.rest k b (by omega) hg,h.ri.glob k (by omega)]
   exact hg
 have subd:∀ k,dom s'.hp k->dom s.hp (ρ k):=λk hk=>by
  unfold dom at hk
  cases hb:s'.hp k with
  | none=>exact absurd hb hk
  | some b=>unfold dom;rw [sub k b hb];simp
 refine ⟨{ h.ri with rel:=λt=>?_,sat:=λk b hb=>?_,inj:=λk l hk hl e=>hw.inj k l hk hl (h.ri.inj _ _ (subd k hk) (subd l hl) e),ext:=?_,keep:=λi hi=>?_,glob:=hw.glob,low:=λk hk hd=>?_ },hw.free,hw.low,h.flat,h.rounds⟩
 ·rcases hw.ts t with e|⟨e,hne,hi⟩
  ·exact .inl e
  ·have e':=(h.ri.rel t).resolve_left hne
   refine .inr ⟨?_,hi⟩
   rw [e'.1,e,zcc]
 ·have hs:=(h.ri.sat _ _ (sub k b hb)).1
  rw [Blk.rn_obj] at hs
  exact ⟨hs,hw.ids k b hb⟩
 ·obtain ⟨S,ms,h1,h2,h3,h4⟩:=h.ri.ext
  refine ⟨S,ms,by rw [hw.yc];exact h1,h2,λi hi hi1=>?_,h4⟩
  refine h3 _ (subd i hi) ?_
  unfold dom at hi
  cases hb:s'.hp i with
  | none=>exact absurd hb hi
  | some b=>exact (hw.hp i b hb hi1).2
 ·have hk:=h.ri.keep i hi
  by_cases h1:100<=i
  ·have hh:=hw.keep i h1 hi
   exact ⟨hh.1,by rw [hh.2];exact hk.2⟩
  ·refine ⟨?_,by rw [hw.id i (by omega)];exact hk.2⟩
   unfold dom;rw [hw.glob i (by omega),<-h.ri.glob i (by omega)];exact hk.1
 ·have hd':=subd k hd
  rw [hw.id k hk] at hd' |-
  exact h.ri.low k hk hd'
theorem zuc {ρ:Nat->Nat} {c:Code} {s':GS} (hw:WeakR C ρ s s') (h:GW P C n d ro c s' K):GW P C n d ro c s K :=
 λ_ a W hi=>h _ a W (hi.rename hw)
theorem zyn {c:Code} (I:Nat->GS->Prop) {m0:Nat} {s0:GS} (hw:Weak C s s0) (h0:I m0 s0)
  (round:∀ m s,I m s->GW P C n d ro c s (zbo (λs'=>∃ ρ s'' m',WeakR C ρ s' s''/\I m' s''/\m'<m) K)):GW P C n d ro (.loop c) s K:=by
 have key:∀ (m:Nat) (s:GS),I m s->∀ r a W,GI P C n d r s a W->∀ (b:Frame) (k:List Item) (cs:List Frame),b.roundOf=ro ->
   (Fs P).fn b.fn->∃ e a' w',(∃ s' r',K e s'/\GI P C n d r' s' a' w')/\ArrivesIn (Machine.fenced P (Fw P ro)) P (lone (b.atR a (.code c::.inLoop c::k)) cs W) b k cs e a' w':=by
  intro m
  induction m using Nat.strongRecOn with
  | _ m ih =>
   intro s hI r a W hi b k cs hro hfn
   obtain ⟨e,a₁,w₁,⟨s',r',hk,hi'⟩,harr⟩:=round m s hI r a W hi b (.inLoop c::k) cs hro hfn (zdt P _)
   cases e with
   | normal =>
    obtain ⟨ρ,s'',m',hw'',hI'',hlt⟩:=hk
    obtain ⟨e₂,a₂,w₂,hq₂,harr₂⟩:=ih m' hlt s'' hI'' _ a₁ w₁ (hi'.rename hw'') b k cs hro hfn
    exact ⟨e₂,a₂,w₂,hq₂,.of_steps (StepsIn.trans harr (.one (fenced_calm (F:=Fw P ro) (n:=0) hfn (zdt P _) rfl) stepR_inLoop)) harr₂⟩
   | exit id=>exact ⟨_,a₁,w₁,⟨s',r',hk,hi'⟩,.pass (x:=.inLoop c) rfl (λ_ _=>.inl (by simp)) harr⟩
   | goto l=>exact ⟨_,a₁,w₁,⟨s',r',hk,hi'⟩,.pass (x:=.inLoop c) rfl (λ_ _=>.inl (by simp)) harr⟩
   | ret=>exact ⟨_,a₁,w₁,⟨s',r',hk,hi'⟩,.pass (x:=.inLoop c) rfl (λ_ _=>.inl (by simp)) harr⟩
   | panic ch=>exact ⟨_,a₁,w₁,⟨s',r',hk,hi'⟩,.pass (x:=.inLoop c) rfl (λ_ _=>.inl (by simp)) harr⟩
   | outgrown=>exact ⟨_,a₁,w₁,⟨s',r',hk,hi'⟩,.pass (x:=.inLoop c) rfl (λ_ _=>.inl (by simp)) harr⟩
 intro r a W hi
 intro b k cs hro hb hr
 obtain ⟨e,a',w',hq,harr⟩:=key m0 s0 h0 r a W (hi.weak hw) b k cs hro hb
 exact ⟨e,a',w',hq,.of_steps (.one (fenced_calm hb hr rfl) stepR_loop) harr⟩
end
section
variable {P:Program} {C:Ctx} {n:Nat} {d:List Deferred} {ro:Option Nat} {s:GS} {K:Exit->GS->Prop}
def zib (P:Program) (T:TypeId):Option Nat:=(P.info? T).map (·.bytes)
theorem zyx {o:Oper} {ts:Nat->Value} {hp:Hp} {nk:Nat} {next:(Nat->Value)->Hp->Prop} {tx ty:Tmp} {t e:TypeId} {sz by':Nat} {z:Value} {k j off2 sl cap m m':Nat} {c nw:List Value} {b2:Blk}
  (ho:o.op=.call { callee:=.builtin .append,args:=#[.tmp tx,.tmp ty],argTypes:=#[t,t] }) (ht:P.underlying t=some (.slice e)) (hs:zas P e=some sz) (hz:zbd P e=some z) (hby:zib P e=some by')
  (hx:ts tx=.slice (some ⟨k,0,none⟩) sl cap) (hk:100<=k) (hb:hp k=some ⟨c.toArray,.ty e⟩) (hbf:∀ x∈c,za9 x=true)
  (hy:ts ty=.slice (some ⟨j,off2,none⟩) m m') (hb2:hp j=some b2) (hnw:∀ q u,nw[q]? = some u->b2.c[off2+q]? = some u) (hb2f:∀ x∈nw,za9 x=true) (h1:∀ u∈nw,u.oneCell'=true) (hzf:∀ q,∀ x∈Builtin.zeroCells z.cells q,za9 x=true)
  (hm:m*sz=nw.length) (hc:cap*sz<=c.length) (hsl:sl<=cap) (hs1:sl+m<=maxLen) (hs2:(sl+m)*by'<=140737488355328)
  (room:sl+m<=cap->next (zcq ts o.dst (.slice (some ⟨k,0,none⟩) (sl+m) cap)) (upd hp k (some ⟨(c.take (sl*sz)++nw++c.drop (sl*sz+nw.length)).toArray,.ty e⟩)))
  (grow:cap<sl+m->∀ cap',sl+m<=cap'->next (zcq ts o.dst (.slice (some ⟨nk,0,none⟩) (sl+m) cap')) (upd hp nk (some ⟨(c.take (sl*sz)++nw++(Builtin.zeroCells z.cells (cap' - (sl+m))).toList).toArray,.ty e⟩))) (hrd:b2.T.rd=true:=by first|rfl|assumption):jg4 P o ts hp nk next:=by
 unfold zas at hs;unfold zbd at hz;unfold zib at hby
 cases hi:P.info? e with
 | none=>rw [hi] at hs;cases hs
 | some i =>
  rw [hi] at hs hz hby
  simp only [Option.map_some,Option.some.injEq,Option.bind_some] at hs hz hby
  subst hs;subst hby
  refine ⟨tx,ty,t,e,i,z,k,j,off2,sl,cap,m,m',_,_,nw,ho,ht,hi,hz,hx,hk,hb,rfl,by simpa using hbf,hy,hb2,hrd,hm.symm,hnw,hb2f,h1,hzf,?_,hsl,hs1,hs2,λhr=>?_,λhr cap' hc'=>?_⟩
  ·simpa using hc
  ·have:=room hr
   exact this
  ·have:=grow hr cap' hc'
   rw [show ((c.take (sl*i.size)).toArray++nw.toArray++Builtin.zeroCells z.cells (cap' - (sl+m)))=(c.take (sl*i.size)++nw++(Builtin.zeroCells z.cells (cap' - (sl+m))).toList).toArray by
    rw [<-List.append_toArray,<-List.append_toArray,Array.toArray_toList]]
   exact this
theorem z4l {o:Oper} {ts:Nat->Value} {hp:Hp} {nk:Nat} {next:(Nat->Value)->Hp->Prop} {tx ty:Tmp} {t e:TypeId} {sz by':Nat} {z:Value} {k j sl cap m m':Nat} {c c2:List Value} {T2:BTy}
  (ho:o.op=.call { callee:=.builtin .append,args:=#[.tmp tx,.tmp ty],argTypes:=#[t,t] }) (ht:P.underlying t=some (.slice e)) (hs:zas P e=some sz) (hz:zbd P e=some z) (hby:zib P e=some by')
  (hx:ts tx=.slice (some ⟨k,0,none⟩) sl cap) (hk:100<=k) (hb:hp k=some ⟨c.toArray,.ty e⟩) (hbf:∀ x∈c,za9 x=true)
  (hy:ts ty=.slice (some ⟨j,0,none⟩) m m') (hb2:hp j=some ⟨c2.toArray,T2⟩) (hb2f:∀ x∈c2,za9 x=true) (h1:∀ u∈c2,u.oneCell'=true) (hzf:∀ q,∀ x∈Builtin.zeroCells z.cells q,za9 x=true)
  (hm:m*sz=c2.length) (hc:cap*sz<=c.length) (hsl:sl<=cap) (hs1:sl+m<=maxLen) (hs2:(sl+m)*by'<=140737488355328)
  (room:sl+m<=cap->next (zcq ts o.dst (.slice (some ⟨k,0,none⟩) (sl+m) cap)) (upd hp k (some ⟨(c.take (sl*sz)++c2++c.drop (sl*sz+c2.length)).toArray,.ty e⟩)))
  (grow:cap<sl+m->∀ cap',sl+m<=cap'->next (zcq ts o.dst (.slice (some ⟨nk,0,none⟩) (sl+m) cap')) (upd hp nk (some ⟨(c.take (sl*sz)++c2++(Builtin.zeroCells z.cells (cap' - (sl+m))).toList).toArray,.ty e⟩))) (hrd:T2.rd=true:=by first|rfl|assumption):jg4 P o ts hp nk next :=
 zyx ho ht hs hz hby hx hk hb hbf hy hb2 (λq u hq=>by simpa using hq) hb2f h1 hzf hm hc hsl hs1 hs2 room grow hrd
theorem zxx {G:Hp} {m m0:List (Nat×Blk)} (ρ:Nat->Nat) (l:List (Nat×Value)) (B:Nat) (hG:C.G=G) (hGF:zbg G) (h0:C.hp0=hpL G m0) (hB:100<=B)
  (hl:∀ p∈l,s.ts p.1=ren ρ p.2/\s.ts p.1≠zcj/\zan (dom (hpL G m)) p.2)
  (hm:∀ p∈m,s.hp (ρ p.1)=some (p.2.rn ρ)/\p.2.ids (dom (hpL G m))/\100<=p.1/\p.1<B/\100<=ρ p.1)
  (hi:∀ p∈m,∀ q∈m,ρ p.1=ρ q.1->p.1=q.1) (hid:∀ k,k<100->ρ k=k)
  (hk:∀ p∈m0,100<=p.1/\dom (hpL G m) p.1/\ρ p.1=p.1):WeakR C ρ s ⟨tsL l,hpL G m,B,s.yc⟩ where
 ts t:=by
  rcases zdv (l:=l) (t:=t) with h|h
  ·exact .inl h
  ·exact .inr (hl _ h)
 hp k b hb h1:=by
  rcases za5 hb with h|h
  ·exact ⟨(hm _ h).1,(hm _ h).2.2.2.2⟩
  ·have:=(hGF k b h).1;omega
 ids k b hb:=by
  rcases za5 hb with h|h
  ·exact (hm _ h).2.1
  ·exact Blk.flat_ids ((hGF k b h).2)
 inj k q hk' hq e:=by
  dsimp only at hk' hq
  unfold dom at hk' hq
  cases hb:hpL G m k with
  | none=>exact absurd hb hk'
  | some b =>
   cases hc:hpL G m q with
   | none=>exact absurd hc hq
   | some c =>
    rcases za5 hb with h|h<;>rcases za5 hc with h'|h'
    ·exact hi _ h _ h' e
    ·have h2:=(hGF q c h').1;rw [hid q h2] at e;have:=(hm _ h).2.2.2.2;simp at this;omega
    ·have h2:=(hGF k b h).1;rw [hid k h2] at e;have:=(hm _ h').2.2.2.2;simp at this;omega
    ·have h2:=(hGF k b h).1;have h3:=(hGF q c h').1;rw [hid k h2,hid q h3] at e;exact e
 id:=hid
 rest k b hlt hb:=by
  rw [hG] at hb
  exact Blk.rn_flat (hGF k b hb).2
 keep k h1k hd:=by
  rw [h0] at hd
  unfold dom at hd
  cases hb:hpL G m0 k with
  | none=>exact absurd hb hd
  | some b =>
   rcases za5 hb with h|h
   ·exact (hk _ h).2
   ·have hlt:=(hGF k b h).1;omega
 glob k hlt:=by rw [hG];exact za7 (λp hp=>(hm p hp).2.2.1) hlt
 yc:=rfl
 free x hx:=by
  dsimp only at hx |-
  cases hb:hpL G m x with
  | none=>rfl
  | some b =>
   rcases za5 hb with h|h
   ·have:=(hm _ h).2.2.2.1;simp at this;omega
   ·have:=(hGF x b h).1;omega
 low:=hB
end
theorem zrt {z:Array Value} {n:Nat} {x:Value} (h:x∈Builtin.zeroCells z n):x∈z:=by
 simp only [Builtin.zeroCells,Array.mem_map,Array.mem_range] at h
 obtain ⟨w,hw,rfl⟩:=h
 have hz:0<z.size:=Nat.pos_of_ne_zero λe=>by rw [e] at hw;simp at hw
 have hlt:=Nat.mod_lt w hz
 rw [getElem!_pos z _ hlt]
 exact Array.getElem_mem hlt
theorem zp5 (z:Array Value) (n:Nat):(Builtin.zeroCells z n).size=n*z.size:=by simp [Builtin.zeroCells]
section
variable {P:Program} {G:Hp} {V:XV}
theorem zd0 {ops:Array Oper} {base:Nat} {Q:QQ}:∀ (l:List Oper) (seen:List (Option Tmp)) (k:Nat) (ts:Nat->Value) (hp:Hp) (tr:Tr) (yc:Nat) (wr yd:Bool),(∀ j,j<k->(seen[k - 1 - j]?).bind id=(ops[j]?).bind (·.dst))->(∀ i,i<l.length->l[i]? = ops[k+i]?) ->
  ziy P G V base Q seen k l ts hp tr yc wr yd->zlu P G V ops base Q.q Q.p k l ts hp tr yc wr yd
 | [],_,_,_,_,_,_,_,_,_,_,h=>h
 | o::l,seen,k,ts,hp,tr,yc,wr,yd,hs,hl,h=>by
  have ho:ops[k]? = some o:=by have:=hl 0 (by simp);simpa using this.symm
  have hs':∀ j,j<k+1->((o.dst::seen)[k+1 - 1 - j]?).bind id=(ops[j]?).bind (·.dst):=λj hj=>by
   by_cases e:j=k
   ·subst e;simp [ho]
   ·have:k+1 - 1 - j=(k - 1 - j)+1:=by omega
    rw [this,List.getElem?_cons_succ];exact hs j (by omega)
  have hl':∀ i,i<l.length->l[i]? = ops[k+1+i]?:=λi hi=>by
   have:=hl (i+1) (by simp;omega)
   rw [List.getElem?_cons_succ] at this
   rw [this];congr 1;omega
  simp only [ziy] at h
  simp only [zlu]
  cases hw:zfc seen k o ts with
  | none=>rw [hw] at h;exact h.elim
  | some b =>
   rw [hw] at h
   rw [zk2 hs hw]
   cases b with
   | true =>
    rw [zop] at h
    refine zra (λe he=>⟨he.1,?_⟩) h
    have he:=he.2
    cases hpn:e.pan with
    | none=>rw [hpn] at he;exact zd0 l _ _ _ _ _ _ _ _ hs' hl' he
    | some pv=>rw [hpn] at he;exact ⟨λhd=>by simpa using he.1 hd,he.2⟩
   | false=>exact ⟨h.1,zd0 l _ _ _ _ _ _ _ _ hs' hl' h.2⟩
end
section
variable {P:Program} {C:Ctx} {n:Nat} {d:List Deferred} {ro:Option Nat} {s:GS} {K:Exit->GS->Prop}
end

section
variable {P:Program} {G:Hp}

def GWL (P:Program) (C:Ctx) (n:Nat) (d:List Deferred) (ro:Option Nat) (c:Code) (s:GS) (K:Exit->GS->Prop):Prop :=
 ∀ r a W,GI P C n d r s a W->∀ (b:Frame) (k:List Item) (cs:List Frame),b.roundOf=ro->(Fs P).fn b.fn ->
  ∃ e a' w',(∃ s' r',K e s'/\GI P C n d r' s' a' w')/\ArrivesIn (Machine.fenced P (Fw P ro)) P (lone (b.atR a (.code c::.inLoop c::k)) cs W) b k cs e a' w'
theorem zat {C:Ctx} {n:Nat} {d:List Deferred} {ro:Option Nat} {c:Code} {s:GS} {K:Exit->GS->Prop} (h:GWL P C n d ro c s K):GW P C n d ro (.loop c) s K:=by
 intro r a W hi b k cs hro hb hr
 obtain ⟨e,a',w',hq,harr⟩:=h r a W hi b k cs hro hb
 exact ⟨e,a',w',hq,.of_steps (.one (fenced_calm hb hr rfl) stepR_loop) harr⟩
theorem zaw {C:Ctx} {n:Nat} {d:List Deferred} {ro:Option Nat} {c:Code} {s:GS} {K:Exit->GS->Prop} (h:GW P C n d ro c s (zbo (λs'=>GWL P C n d ro c s' K) K)):GWL P C n d ro c s K:=by
 intro r a W hi b k cs hro hfn
 obtain ⟨e,a₁,w₁,⟨s',r',hk,hi'⟩,harr⟩:=h r a W hi b (.inLoop c::k) cs hro hfn (zdt P _)
 cases e with
 | normal =>
  obtain ⟨e₂,a₂,w₂,hq₂,harr₂⟩:=hk r' a₁ w₁ hi' b k cs hro hfn
  exact ⟨e₂,a₂,w₂,hq₂,.of_steps (StepsIn.trans harr (.one (fenced_calm (F:=Fw P ro) (n:=0) hfn (zdt P _) rfl) stepR_inLoop)) harr₂⟩
 | exit id=>exact ⟨_,a₁,w₁,⟨s',r',hk,hi'⟩,.pass (x:=.inLoop c) rfl (λ_ _=>.inl (by simp)) harr⟩
 | goto l=>exact ⟨_,a₁,w₁,⟨s',r',hk,hi'⟩,.pass (x:=.inLoop c) rfl (λ_ _=>.inl (by simp)) harr⟩
 | ret=>exact ⟨_,a₁,w₁,⟨s',r',hk,hi'⟩,.pass (x:=.inLoop c) rfl (λ_ _=>.inl (by simp)) harr⟩
 | panic ch=>exact ⟨_,a₁,w₁,⟨s',r',hk,hi'⟩,.pass (x:=.inLoop c) rfl (λ_ _=>.inl (by simp)) harr⟩
 | outgrown=>exact ⟨_,a₁,w₁,⟨s',r',hk,hi'⟩,.pass (x:=.inLoop c) rfl (λ_ _=>.inl (by simp)) harr⟩
theorem zer {C:Ctx} {n:Nat} {d:List Deferred} {ro:Option Nat} {c rest:Code} {s:GS} {K:Exit->GS->Prop} (l:Nat) (I:Nat->GS->Prop) (hfl:findLabel c l=some (.seq .skip rest))
  (pass:∀ m s,I m s->GW P C n d ro rest s (zh2 l (λs'=>∃ s'' m',Weak C s' s''/\I m' s''/\m'<m) K))
  (first:(∀ m s s',Weak C s' s->I m s->GW P C n d ro rest s' (zh2 l (λs'=>∃ s'' m',Weak C s' s''/\I m' s'') K))->GW P C n d ro c s (zh2 l (λs'=>∃ s'' m',Weak C s' s''/\I m' s'') K)):GW P C n d ro (.scope c) s K :=
 zyo l I hfl (first λm s s' hw hI=>zox hw (zb2 (pass m s hI) λe s h=>by
  cases e<;>first|exact h|exact ⟨h.1,let ⟨s'',m',h1,h2,_⟩:=h.2;⟨s'',m',h1,h2⟩⟩)) λm s hI=>zgm (zue (pass m s hI))
@[simp] theorem z8l (k:IntKind) (T:TypeId) (v:Value) (C:Eff->Prop):z23 (some (.int k)) T v C=C (val (.iface T v) []):=nr rfl

theorem zqs {n B:Nat} {hp:Hp} {ts:Nat->Value} {r:Nat->Nat} {a:Act} {W:World} (hGF:zbg G) (hsz:a.tmps.size=n) (hd:a.defers=[]) (hrel:Rel r (dom hp) ts a)
  (hsat:Sat r (dom hp) hp W) (hinj:Inj r (dom hp)) (hlow:∀ k,k<100->dom hp k->r k=k) (hG:∀ k,k<100->hp k=G k) (hfree:∀ x,B<=x->hp x=none) (hB:100<=B) :
  GI P ⟨zdg W (imO r hp),hp,r,G,some .still⟩ n [] r ⟨ts,hp,B,0⟩ a W:=by
 have ltW:∀ k,dom hp k->r k<W.heap.size:=λk hk=>by
  unfold dom at hk
  cases hb:hp k with
  | none=>exact absurd hb hk
  | some b=>exact (Array.getElem?_eq_some_iff.1 (hsat k b hb).1).1
 exact ⟨⟨hsz,hrel,hsat,hinj,⟨λk=>k<W.heap.size/\¬imO r hp k,[],⟨λ_=>Iff.rfl,rfl,rfl,rfl,Nat.le_refl _,λ_ _=>rfl⟩,λk hk=>hk.1,λi hi _ hS=>hS.2 ⟨i,hi,rfl⟩,⟨by simp [hd],List.nodup_nil⟩,by simp⟩,
   λi hi=>⟨hi,rfl⟩,hG,hlow⟩,hfree,hB,hGF,λy hy=>by cases hy;exact ⟨λc x S W _ hx=>by simp [YG.still] at hx,trivial⟩⟩

theorem RI.still {C:Ctx} {n:Nat} {d:List Deferred} {r:Nat->Nat} {ts:Nat->Value} {hp:Hp} {yc:Nat} {a:Act} {W:World} (h:RI C n d r ts hp yc a W) (hY:C.Y=some .still):a.defers=d:=by
 obtain ⟨S,ms,_,_,_,⟨h4,_⟩,h5⟩:=h.ext
 cases ms with
 | nil=>simpa using h4
 | cons D ms=>exact absurd hY (h5 D (by simp)).2.2

theorem zw4 {C:Ctx} {n:Nat} {d:List Deferred} {r r':Nat->Nat} {ts:Nat->Value} {hp hp0:Hp} {yc:Nat} {a':Act} {W W':World} {ws:List (Nat×Blk)} (h:RI C n d r' ts hp yc a' W') (hE:C.E=zdg W (imO r hp0))
  (hk0:∀ k,dom hp0 k->dom C.hp0 k/\C.r0 k=r k) (hsat:Sat r (dom hp0) hp0 W) (hcl:∀ k b,hp0 k=some b->b.ids (dom hp0)) (hhp:∀ k,dom hp0 k->hp k=zbb hp0 ws k)
  (hws:∀ k∈zab ws,dom hp0 k) (once:∀ k b c,(k,b)∈ws->(k,c)∈ws->b=c) (hid:∀ p∈ws,p.2.ids (dom hp0)):(∀ k,dom hp0 k->r' k=r k)/\Turn r (zcu (dom hp0) []) W W' ws []:=by
 obtain ⟨S,ms,hX,hS1,hS2,_,_⟩:=h.ext
 rw [hE] at hX
 obtain ⟨hS,os,tape,output,size,hsame⟩:=hX
 have hkeep:∀ i,dom hp0 i->dom hp i/\r' i=r i:=λi hi=>by
  have h1:=hk0 i hi
  have h2:=h.keep i h1.1
  exact ⟨h2.1,h2.2.trans h1.2⟩
 refine ⟨λk hk=>(hkeep k hk).2,os,tape,output,size,λk hk hnw=>?_,λp hp1=>?_,by simp,by simp⟩
 ·by_cases hk':imO r hp0 k
  ·obtain ⟨i,hi1,rfl⟩:=hk'
   have hiw:i∉zab ws:=λhm=>by obtain ⟨p,hp1,rfl⟩:=zad.1 hm;exact hnw p hp1 rfl
   cases hb:hp0 i with
   | none=>exact absurd hb hi1
   | some b =>
    have e:hp i=some b:=by rw [hhp i hi1,za6 hiw];exact hb
    have:=(h.sat i b e).1
    rw [(hkeep i hi1).2,Blk.obj_congr (λk hk=>(hkeep k hk).2) (hcl i b hb)] at this
    rw [this,(hsat i b hb).1]
  ·exact hsame k ((hS k).2 ⟨hk,hk'⟩)
 ·simp only [List.append_nil] at hp1
  have hdm:dom hp0 p.1:=hws p.1 (zad.2 ⟨p,hp1,rfl⟩)
  have e:hp p.1=some p.2:=by rw [hhp _ hdm];exact zom hp1 once
  have:=(h.sat _ _ e).1
  have hi:=hid p hp1
  rw [(hkeep _ hdm).2,Blk.obj_congr (λk hk=>(hkeep k hk).2) hi] at this
  exact ⟨this,Blk.ids_mono (λk hk=>.inl hk) hi⟩

theorem z6v {r:Nat->Nat} {D:Nat->Prop} {A:Array Value} {ds:List Deferred} (h:∀ x∈A,zan D x):Rel r D (λt=>A.getD t undef) { tmps:=A.map (ren r),defers:=ds }:=λt=>by
 right
 dsimp only
 by_cases ht:t<A.size
 ·have e:A.getD t undef=A[t]:=by simp [Array.getD,ht]
  rw [e]
  exact ⟨by simp [Array.getD,ht],h _ (Array.getElem_mem ht)⟩
 ·have e:A.getD t undef=undef:=by simp [Array.getElem?_eq_none (Nat.le_of_not_lt ht)]
  rw [e]
  exact ⟨by rw [zb9];simp [Array.getElem?_eq_none (Nat.le_of_not_lt ht)],zcl _⟩

def jdb (pv:Value):FrameMode:=.panicking [{ v:=pv,recovered:=true }]
def jcw (pv:Value):FrameMode:=.panicking [{ v:=pv,recovered:=false }]

structure RecF (P:Program) (G:Hp) (h:FuncId) (caps:Array Value) (hp:Hp) (rs:List Nat) (pv:Value) (ws:List (Nat×Blk)):Prop where
 fn:∃ fn,P.funcs[h]? = some fn
 enter:∀ a w,(callFunc h a).run P w=.ok (.enter h a) w
 back:∀ args W,args.size=caps.size->CallsDIn (Fs P) 0 P h args .returning W λe u' W'=>(∃ v,e=.returned v)/\u'=.returning/\W'=W
 caught:∀ r W,Sat r (dom (rst hp rs)) (rst hp rs) W->Inj r (dom (rst hp rs))->(∀ k,k<100->dom (rst hp rs) k->r k=k) ->
  CallsDIn (Fs P) 0 P h (caps.map (ren r)) (jcw pv) W λe u' W'=>(∃ v,e=.returned v)/\u'=jdb pv/\Turn r (zcu (dom (rst hp rs)) []) W W' ws []

theorem zm8 {h:FuncId} {fn:Func} {id:Nat} {ops:Array Oper} {rest:Code} {caps A:Array Value} {hp:Hp} {rs:List Nat} {pv:Value} {ws:List (Nat×Blk)} {B:Nat} (hGF:zbg G) (hG:∀ k,k<100->hp k=G k)
  (hf:P.funcs[h]? = some fn) (hb:fn.body=some (.seq (.region id ops false) rest)) (hA:A.size=fn.ntmps) (hids:∀ x∈A,zan (dom (rst hp rs)) x)
  (hfirst:∀ (r:Nat->Nat) (c₀:Frame) (cs:List Frame) (W:World) (Q:Exit->Act->List Frame->World->Prop),c₀.mode=jcw pv->Q .normal { tmps:=A.map (ren r),defers:=[] } ({ c₀ with mode:=jdb pv }::cs) W ->
   wpOpsSIn (Fs P) 0 P ops Q (List.range ops.size) { tmps:=caps.map (ren r)++Array.replicate (fn.ntmps - (caps.map (ren r)).size) undef,defers:=[] } (c₀::cs) W)
  (hcl:∀ k b,rst hp rs k=some b->b.ids (dom (rst hp rs))) (hws:∀ k∈zab ws,dom (rst hp rs) k) (once:∀ k b c,(k,b)∈ws->(k,c)∈ws->b=c) (hid:∀ p∈ws,p.2.ids (dom (rst hp rs)))
  (hB:100<=B) (hfree:∀ x,B<=x->rst hp rs x=none)
  (hrest:∀ C:Ctx,C.G=G->C.hp0=rst hp rs->C.Y=some .still->GW P C fn.ntmps [] none rest ⟨λt=>A.getD t undef,rst hp rs,B,0⟩ λe s=>(e=.normal\/e=.ret)/\(zmq P fn.results.toList s.ts s.hp).isSome=true/\∀ k,dom (rst hp rs) k->s.hp k=zbb (rst hp rs) ws k)
  (r:Nat->Nat) (W:World) (hsat:Sat r (dom (rst hp rs)) (rst hp rs) W) (hinj:Inj r (dom (rst hp rs))) (hlow:∀ k,k<100->dom (rst hp rs) k->r k=k) :
  CallsDIn (Fs P) 0 P h (caps.map (ren r)) (jcw pv) W λe u' W'=>(∃ v,e=.returned v)/\u'=jdb pv/\Turn r (zcu (dom (rst hp rs)) []) W W' ws []:=by
 refine callsDIn_of_wpSIn hf hb ⟨fn,hf⟩ λc₀ cs hu=>wpSIn_seq (wpSIn_region (hfirst r c₀ cs W _ hu (wpSIn_of_wpIn rfl ?_)))
 have hi:=zqs (P:=P) (B:=B) (n:=fn.ntmps) (ts:=λt=>A.getD t undef) (a:={ tmps:=A.map (ren r),defers:=[] }) hGF (by simp [hA]) rfl (z6v hids) hsat hinj hlow (λk hk=>by simp [rst,hk,hG k hk]) hfree hB
 refine wpIn_mono (hrest _ rfl rfl rfl r _ W hi) ?_
 rintro e a' W' ⟨s',r',⟨he,hr,hhp⟩,hi'⟩
 have hd:=hi'.ri.still rfl
 have ht:=zw4 hi'.ri (r:=r) (hp0:=rst hp rs) rfl (λk hk=>⟨hk,rfl⟩) hsat hcl hhp hws once hid
 cases hv:zmq P fn.results.toList s'.ts s'.hp with
 | none=>rw [hv] at hr;cases hr
 | some v =>
  have hrun:=zc8 (fn:=fn) hi'.ri.rel hi'.ri.sat hv
  rcases he with rfl|rfl
  ·exact ⟨hd,_,rfl,_,hrun,⟨_,rfl⟩,rfl,ht.2⟩
  ·exact ⟨hd,_,rfl,_,hrun,⟨_,rfl⟩,rfl,ht.2⟩

theorem zuy {h:FuncId} {fn:Func} {c:Code} {k:Nat} (hf:P.funcs[h]? = some fn) (hb:fn.body=some c)
  (hw:∀ (args:Array Value) (c₀:Frame) (cs:List Frame) (W:World),args.size=k->c₀.mode=.returning ->
   c.wpSIn (Fs P) 0 P (λe a cs' W'=>(e=.normal\/e=.ret)/\a.defers=[]/\cs'=c₀::cs/\W'=W/\∃ v,(results fn a.tmps).run P W=.ok v W) { tmps:=args++Array.replicate (fn.ntmps - args.size) undef,defers:=[] } (c₀::cs) W)
  (args:Array Value) (W:World) (hk:args.size=k):CallsDIn (Fs P) 0 P h args .returning W λe u' W'=>(∃ v,e=.returned v)/\u'=.returning/\W'=W:=by
 refine callsDIn_of_wpSIn hf hb ⟨fn,hf⟩ λc₀ cs hu=>?_
 intro b k' hb hr hF hroom
 obtain ⟨e,a',cs',w',hl,⟨he,hd,rfl,rfl,v,hv⟩,harr⟩:=hw args c₀ cs W hk hu b k' hb hr hF hroom
 refine ⟨e,a',_,_,hl,?_,harr⟩
 have hc:({ c₀ with mode:=.returning }:Frame)=c₀:=by rw [<-hu]
 rcases he with rfl|rfl
 ·exact ⟨hd,.returning,by rw [hc],v,hv,⟨_,rfl⟩,rfl,rfl⟩
 ·exact ⟨hd,.returning,by rw [hc],v,hv,⟨_,rfl⟩,rfl,rfl⟩

theorem RecF.under {h:FuncId} {caps:Array Value} {hp hp':Hp} {rs:List Nat} {pv:Value} {ws:List (Nat×Blk)} (hr:RecF P G h caps hp' rs pv ws) (e:∀ k,(k<100\/k∈rs)->hp' k=hp k):RecF P G h caps hp rs pv ws :=
 ⟨hr.fn,hr.enter,hr.back,by rw [<-zd6 e];exact hr.caught⟩

theorem znb {n:Nat} {id t:Nat} {h:FuncId} {cs:Array Operand} {ty1 ty2:TypeId} {ps1 ps2:String} {af2:Array Edge} {Q:Exit->Act->World->Prop} {a:Act} {W:World} (ht:t<a.tmps.size)
  (hQ:Q .normal { a.put (some t) (.func (.func h) #[] (cs.map a.eval)) with defers:=⟨.fn (.func h) (cs.map a.eval),#[]⟩::a.defers } W) :
  (Code.region id [⟨some t,.makeFunc (.func h) #[] cs,ty1,ps1,#[],none⟩,⟨none,.defer ⟨.value (.tmp t),#[],#[]⟩,ty2,ps2,af2,none⟩].toArray false).wpIn (Fw P none) n P Q a W:=by
 refine wpIn_region_lit (wpListIn_plain rfl λK hK=>?_)
 refine ⟨λf hf=>by simp [Oper.about] at hf,?_⟩
 have e:(Fw P none).round=none:=rfl
 rw [e,Oper.semAt_none]
 have hrun:(execOp a.eval ⟨some t,.makeFunc (.func h) #[] cs,ty1,ps1,#[],none⟩).run P W=.ok (.value (.func (.func h) #[] (cs.map a.eval))) W:=by
  simp [execOp,Instr.makeFunc]
 rw [hrun]
 refine hK _ _ (wpListIn_plain rfl λK hK=>?_)
 refine ⟨λf hf=>by simp [Oper.about] at hf,?_⟩
 rw [e,Oper.semAt_none]
 have hev:(a.put (some t) (.func (.func h) #[] (cs.map a.eval))).eval (.tmp t)=.func (.func h) #[] (cs.map a.eval):=by simp [Act.eval,Act.put,ht]
 have hrun:(execOp (a.put (some t) (.func (.func h) #[] (cs.map a.eval))).eval ⟨none,.defer ⟨.value (.tmp t),#[],#[]⟩,ty2,ps2,af2,none⟩).run P W=.ok (.defer ⟨.fn (.func h) (cs.map a.eval),#[]⟩) W:=by
  simp [execOp,resolve,hev,Deferred.ofValue]
 dsimp only
 rw [hrun]
 exact hK _ _ (wpListIn_nil hQ)

inductive REnd
 | ret (v:Value) (ws:List (Nat×Blk))
 | pan (pv:Value) (rs1:List Nat) (ws1:List (Nat×Blk)) (v:Value)
def REnd.res:REnd->Res
 | .ret v ws=>.ret v ws
 | .pan _ _ _ v=>.ret v []
def ji9 (P:Program) (G:Hp) (fn:Func) (h:FuncId) (capsD:Array Value) (hp hp1:Hp) (out:REnd) (e:Exit) (s:GS):Prop :=
 match out with
 | .ret v ws=>(e=.normal\/e=.ret)/\zmq P fn.results.toList s.ts s.hp=some v/\∀ k,dom hp k->s.hp k=zbb hp ws k
 | .pan pv rs1 ws1 v=>e=.panic [{ v:=pv,recovered:=false }]/\zmq P fn.results.toList s.ts (zbb s.hp ws1)=some v/\(∀ k,dom hp1 k->s.hp k=hp1 k)/\RecF P G h capsD hp1 rs1 pv ws1/\(∀ k,dom (rst hp1 rs1) k->dom hp1 k) /\
   (∀ k∈zab ws1,dom (rst hp1 rs1) k/\100<=k/\¬dom hp k)/\(∀ k b,rst hp1 rs1 k=some b->b.ids (dom (rst hp1 rs1)))

theorem zlp {f h:FuncId} {fn:Func} {R0 rest:Code} {id t:Nat} {cs:Array Operand} {ty1 ty2:TypeId} {ps1 ps2:String} {af2:Array Edge} {args:Array Value} {hp hp1:Hp} {rs:List Nat} {ts1:Nat->Value} {B B1:Nat} {out:REnd} (capsD:Array Value)
  (hGF:zbg G) (hG:∀ k,k<100->hp k=G k) (hf:P.funcs[f]? = some fn)
  (hb:fn.body=some (.seq R0 (.seq (.region id [⟨some t,.makeFunc (.func h) #[] cs,ty1,ps1,#[],none⟩,⟨none,.defer ⟨.value (.tmp t),#[],#[]⟩,ty2,ps2,af2,none⟩].toArray false) rest))) (ht:t<fn.ntmps)
  (hcall:∀ a w,(callFunc f a).run P w=.ok (.enter f a) w) (hback:∃ pv hp rs ws,RecF P G h capsD hp rs pv ws)
  (ha:∀ x∈args,zan (dom (rst hp rs)) x) (hcl:∀ k b,rst hp rs k=some b->b.ids (dom (rst hp rs))) (hfit:out.res.fits hp rs) (hn:args.size<=fn.ntmps) (hB:100<=B) (hfree:∀ x,B<=x->rst hp rs x=none)
  (hR0:∀ C:Ctx,C.G=G->C.hp0=rst hp rs->C.Y=some .still->GW P C fn.ntmps [] none R0 ⟨λt=>args.getD t undef,rst hp rs,B,0⟩ λe s=>e=.normal/\s=⟨ts1,hp1,B1,0⟩)
  (hsub:∀ k,dom (rst hp rs) k->hp1 k=rst hp rs k)
  (hcs:∀ o∈cs.toList,okT ts1 o/\∃ t',o=.tmp t') (hcd:cs.map (gev ts1)=capsD) (hpl:∀ x∈capsD,zbj x=true)
  (hrest:∀ (C:Ctx) (d:List Deferred),C.G=G->C.hp0=hp1->C.Y=some .still->GW P C fn.ntmps d none rest ⟨upd ts1 t (.func (.func h) #[] capsD),hp1,B1,0⟩ (ji9 P G fn h capsD (rst hp rs) hp1 out)) :
  Fun P G f args hp rs out.res:=by
 refine ⟨hcall,ha,hcl,hfit,λr W hgok hsat hinj hlow=>callsIn_of_wp_defers hf hb ⟨fn,hf⟩ ?_⟩
 have hi:=zqs (P:=P) (B:=B) (n:=fn.ntmps) (ts:=λt=>args.getD t undef) (a:={ tmps:=args.map (ren r)++Array.replicate (fn.ntmps - (args.map (ren r)).size) undef,defers:=[] }) hGF (by simp;omega) rfl ?_ hsat hinj hlow
  (λk hk=>by simp [rst,hk,hG k hk]) hfree hB
 ·refine wpIn_seq (wpIn_mono (hR0 _ rfl rfl rfl r _ W hi) ?_)
  rintro e a1 W1 ⟨s1,r1,⟨rfl,rfl⟩,hi1⟩
  have hd1:a1.defers=[]:=hi1.ri.still rfl
  have hev:cs.map a1.eval=capsD.map (ren r1):=by
   rw [<-hcd,Array.map_map]
   refine Array.map_congr_left λo ho=>?_
   obtain ⟨h1,t',rfl⟩:=hcs o (by simpa using ho)
   have h2:nj (ts1 t'):=h1
   have h3:=(hi1.ri.rel t').resolve_left (λe=>by dsimp only at e;rw [e] at h2;exact absurd h2 (by simp [nj,zcj]))
   exact h3.1
  have hids:∀ x∈capsD,zan (dom hp1) x:=λx hx=>by
   rw [<-hcd] at hx
   obtain ⟨o,ho,rfl⟩:=Array.mem_map.1 hx
   obtain ⟨h1,t',rfl⟩:=hcs o (by simpa using ho)
   have h2:nj (ts1 t'):=h1
   have h3:=(hi1.ri.rel t').resolve_left (λe=>by dsimp only at e;rw [e] at h2;exact absurd h2 (by simp [nj,zcj]))
   exact h3.2
  refine wpIn_seq (znb (by rw [hi1.ri.size];exact ht) ?_)
  rw [hev,hd1]
  have hclo:ren r1 (.func (.func h) #[] capsD)=.func (.func h) #[] (capsD.map (ren r1)):=by
   have e:capsD.map (zam r1)=capsD.map (ren r1):=Array.map_congr_left λx hx=>(zb5 (hpl x hx)).symm
   simp [ren,zay,zaj,e]
  have hi2:GI P ⟨zdg W (imO r (rst hp rs)),hp1,r1,G,some .still⟩ fn.ntmps [⟨.fn (.func h) (capsD.map (ren r1)),#[]⟩] r1 ⟨upd ts1 t (.func (.func h) #[] capsD),hp1,B1,0⟩
    { a1.put (some t) (.func (.func h) #[] (capsD.map (ren r1))) with defers:=[⟨.fn (.func h) (capsD.map (ren r1)),#[]⟩] } W1:=by
   have:=hi1.ri.put (dst:=some t) (v:=.func (.func h) #[] capsD) (λd hd=>by cases hd;exact ht) ⟨by simp,λx hx=>(zbs (hpl x hx)).1 (hids x hx)⟩
   rw [hclo] at this
   obtain ⟨S,ms,h1,h2,h3,h4,h5⟩:=hi1.ri.ext
   exact ⟨⟨this.size,this.rel,this.sat,this.inj,⟨S,[],h1,h2,h3,⟨rfl,List.nodup_nil⟩,by simp⟩,λi hi=>⟨hi,rfl⟩,this.glob,this.low⟩,hi1.free,hi1.low,hGF,λy hy=>by cases hy;exact ⟨λc x S W _ hx=>by simp [YG.still] at hx,trivial⟩⟩
  refine wpIn_mono (hrest _ _ rfl rfl rfl r1 _ W1 hi2) ?_
  rintro e a' W' ⟨s',r',hpost,hi'⟩
  have hd:=hi'.ri.still rfl
  have hag:∀ k,dom (rst hp rs) k->dom hp1 k/\r1 k=r k:=λk hk=>⟨by unfold dom at hk |-;rw [hsub k hk];exact hk,(hi1.ri.keep k hk).2⟩
  have hlead:∀ (W:World) g,(Target.fn (.func h) (capsD.map (ren r1))).leads P W #[]=some g->(Fw P none).fn g:=λW g hg=>by
   simp [Target.leads] at hg
   subst hg
   obtain ⟨_,_,_,_,hr⟩:=hback
   exact hr.fn
  have hinv:∀ W:World,(invoke (.fn (.func h) (capsD.map (ren r1))) #[]).run P W=.ok (.enter h (capsD.map (ren r1))) W:=λW=>by
   obtain ⟨_,_,_,_,hr⟩:=hback
   simp [invoke,hr.enter]
  cases out with
  | ret v ws =>
   obtain ⟨he,hr,hhp⟩:=hpost
   have key:LeavesIn (Fw P none) 0 P fn a'.tmps ((Res.ret v ws).holds r (dom (rst hp rs)) W) a'.defers .returning W':=by
    rw [hd]
    refine leavesIn_cons (by simp) (λh=>by cases h) (hinv W') (hlead W') ?_
    obtain ⟨_,_,_,_,hr'⟩:=hback
    refine CallsDIn.mono (hr'.back _ W' (by simp)) ?_
    rintro e u' W'' ⟨⟨v',rfl⟩,rfl,rfl⟩
    have hrun:=zc8 (fn:=fn) hi'.ri.rel hi'.ri.sat hr
    have hend:=zw4 hi'.ri (r:=r) (hp0:=rst hp rs) rfl hag hsat hcl hhp (λk hk=>by
     have:=hfit.2.1 k hk;unfold dom rst at *;simp [this.1];exact this.2.1) hfit.2.2.1 hfit.2.2.2
    rw [zcn (λk hk=>hend.1 k hk) hfit.1] at hrun
    exact ⟨_,hrun,rfl,hend.2⟩
   rcases he with rfl|rfl<;>exact key
  | pan pv rs1 ws1 v =>
   obtain ⟨rfl,hr,hhp,hrec,hd1',hk1,hcl1⟩:=hpost
   show LeavesIn (Fw P none) 0 P fn a'.tmps ((Res.ret v []).holds r (dom (rst hp rs)) W) a'.defers (.panicking _) W'
   rw [hd]
   refine leavesIn_cons (by simp) (λh=>by cases h) (hinv W') (hlead W') ?_
   have hr1:∀ k,dom hp1 k->r' k=r1 k:=λk hk=>(hi'.ri.keep k hk).2
   have hsub1:∀ k,dom (rst hp1 rs1) k->s'.hp k=rst hp1 rs1 k:=λk hk=>by
    rw [hhp k (hd1' k hk)]
    unfold dom rst at hk
    unfold rst
    split
    ·rfl
    ·rename_i hh;simp [hh] at hk
   have hcap:capsD.map (ren r1)=capsD.map (ren r'):=Array.map_congr_left λx hx=>zcn (λk hk=>(hr1 k hk).symm) (hids x hx)
   rw [hcap]
   have dsub:∀ k,dom (rst hp1 rs1) k->dom s'.hp k:=λk hk=>by unfold dom;rw [hsub1 k hk];exact hk
   refine CallsDIn.mono (hrec.caught r' W' (λk b hk=>?_) (λk l hk hl=>hi'.ri.inj k l (dsub k hk) (dsub l hl)) (λk hk hk'=>hi'.ri.low k hk (dsub k hk'))) ?_
   ·refine ⟨(hi'.ri.sat k b ?_).1,hcl1 k b hk⟩
    rw [hsub1 k (by unfold dom;rw [hk];simp)];exact hk
   rintro e u' W'' ⟨⟨v',rfl⟩,rfl,hturn⟩
   have hset:settle (jdb pv)=.returning:=rfl
   show LeavesIn _ _ _ _ _ _ [] (settle (jdb pv)) W''
   rw [hset]
   have hri:RI ⟨zdg W (imO r (rst hp rs)),hp1,r1,G,some .still⟩ fn.ntmps [⟨.fn (.func h) (capsD.map (ren r1)),#[]⟩] r' (zcq s'.ts none undef) (zbb s'.hp (ws1++[])) s'.yc (a'.put none (ren r' undef)) W'':=by
    refine hi'.ri.after (e:=⟨undef,[],ws1,[],none,false⟩) (λ_ h=>by cases h) (λ_ _=>rfl) (zcl _) ?_ (λk hk=>⟨dsub k (hk1 k hk).1,(hk1 k hk).2.1⟩) (by simp [zab])
    have mono:∀ k,zcu (dom (rst hp1 rs1)) [] k->zcu (dom s'.hp) [] k:=λk hk=>hk.imp (dsub k) (λh=>h)
    exact ⟨hturn.os,hturn.tape,hturn.output,hturn.size,hturn.same,λp hp1=>⟨(hturn.has p hp1).1,Blk.ids_mono mono (hturn.has p hp1).2⟩,hturn.fresh,hturn.apart⟩
   simp only [List.append_nil] at hri
   have hrun:=zc8 (fn:=fn) hri.rel hri.sat hr
   have hend:=zw4 hri (r:=r) (hp0:=rst hp rs) (ws:=[]) rfl hag hsat hcl (λk hk=>by
    simp only [zbb]
    rw [za6 (λhm=>(hk1 k hm).2.2 hk),hhp k (hag k hk).1,hsub k hk]) (by simp [zab]) (by simp) (by simp)
   rw [zcn (λk hk=>hend.1 k hk) hfit.1] at hrun
   exact ⟨_,hrun,rfl,hend.2⟩
 ·intro t
  right
  dsimp only
  by_cases ht:t<args.size
  ·have hm:args[t]∈args:=Array.getElem_mem ht
   have e:args.getD t undef=args[t]:=by simp [Array.getD,ht]
   rw [e]
   refine ⟨?_,ha _ hm⟩
   have:t<(args.map (ren r)).size:=by simpa using ht
   simp [Array.getElem?_append_left this,ht]
  ·have e:args.getD t undef=undef:=by simp [Array.getElem?_eq_none (Nat.le_of_not_lt ht)]
   rw [e]
   refine ⟨?_,zcl _⟩
   rw [zb9]
   simp only [Array.getD_eq_getD_getElem?]
   rw [Array.getElem?_append_right (by simpa using Nat.le_of_not_lt ht),Array.getElem?_replicate]
   split<;>rfl
end
section
variable {P:Program} {G:Hp}
theorem zls {ρ:Nat->Nat} {D D':Nat->Prop} (h:∀ k,D k->D' (ρ k)) {v:Value} (hv:za0 D v):za0 D' (zay ρ v):=by
 cases v with
 | agg cs =>
  intro x hx
  obtain ⟨y,hy,rfl⟩:=Array.mem_map.1 hx
  exact zjg h (hv y hy)
 | func f a b=>exact zjg (v:=.func f a b) h hv
 | iface t v=>exact zjg (v:=.iface t v) h hv
 | pointer p=>cases p<;>first|exact h _ hv|trivial
 | slice p _ _=>cases p<;>first|exact h _ hv|trivial
 | map p=>cases p<;>first|exact h _ hv|trivial
 | _=>trivial
theorem zfv {ρ:Nat->Nat} {D D':Nat->Prop} (h:∀ k,D k->D' (ρ k)) {v:Value} (hv:zan D v):zan D' (ren ρ v):=by
 cases v with
 | tuple vs =>
  intro x hx
  obtain ⟨y,hy,rfl⟩:=Array.mem_map.1 hx
  exact zls h (hv y hy)
 | agg cs=>exact zls (v:=.agg cs) h hv
 | func f a b=>exact zls (v:=.func f a b) h hv
 | iface t v=>exact zls (v:=.iface t v) h hv
 | pointer p=>cases p<;>first|exact h _ hv|trivial
 | slice p _ _=>cases p<;>first|exact h _ hv|trivial
 | map p=>cases p<;>first|exact h _ hv|trivial
 | _=>trivial
theorem Rn.bflat {ρ:Nat->Nat} {hp:Hp} (hGF:zbg G) (hG:∀ k,k<100->hp k=G k) {k:Nat} {b:Blk} (hk:k<100) (hb:hp k=some b):b.rn ρ=b:=by
 have hg:G k=some b:=(hG k hk).symm.trans hb
 exact Blk.rn_flat (hGF k b hg).2
theorem Rn.back {ρ:Nat->Nat} {hp hp':Hp} {rs:List Nat} (hGF:zbg G) (hG:∀ k,k<100->hp k=G k) (h:Rn ρ hp hp' rs) (k:Nat) (b:Blk) (hb:rst hp' (rs.map ρ) k=some b):∃ q c,rst hp rs q=some c/\ρ q=k/\b=c.rn ρ:=by
 unfold rst at hb
 by_cases h1:k<100
 ·simp only [h1,true_or,if_true] at hb
  have hl:=h.low k h1
  rw [hl.2] at hb
  exact ⟨k,b,by simp [rst,h1,hb],hl.1,(Rn.bflat hGF hG h1 hb).symm⟩
 ·by_cases hm:k∈rs.map ρ
  ·obtain ⟨q,hq,rfl⟩:=List.mem_map.1 hm
   simp only [hm,or_true,if_true] at hb
   have hq1:100<=q:=by
    by_cases hq1:100<=q
    ·exact hq1
    ·exact absurd (by rw [(h.low q (by omega)).1];omega) h1
   obtain ⟨c,e1,e2⟩:=h.at' q hq hq1
   rw [e2] at hb;cases hb
   exact ⟨q,c,by simp [rst,hq,e1],rfl,rfl⟩
  ·simp [h1,hm] at hb
theorem Rn.mem {hp:Hp} {rs:List Nat} {k:Nat} (hk:dom (rst hp rs) k) (h1:100<=k):k∈rs:=by
 unfold dom rst at hk
 by_cases hm:k∈rs
 ·exact hm
 ·simp [hm] at hk;omega
theorem Rn.sat {ρ:Nat->Nat} {hp hp':Hp} {rs:List Nat} (hGF:zbg G) (hG:∀ k,k<100->hp k=G k) (h:Rn ρ hp hp' rs) (hcl:∀ k b,rst hp rs k=some b->b.ids (dom (rst hp rs))) {r:Nat->Nat} {W:World}
  (hsat:Sat r (dom (rst hp' (rs.map ρ))) (rst hp' (rs.map ρ)) W) (hinj:Inj r (dom (rst hp' (rs.map ρ)))) (hlow:∀ k,k<100->dom (rst hp' (rs.map ρ)) k->r k=k) :
  Sat (λk=>r (ρ k)) (dom (rst hp rs)) (rst hp rs) W/\Inj (λk=>r (ρ k)) (dom (rst hp rs))/\∀ k,k<100->dom (rst hp rs) k->r (ρ k)=k:=by
 refine ⟨λk b hk=>⟨?_,hcl k b hk⟩,λk l hk hl e=>?_,λk hk hd=>?_⟩
 ·have hd:dom (rst hp rs) k:=by unfold dom;rw [hk];simp
  have hd':=h.dom1 hd
  unfold dom at hd'
  cases hb:rst hp' (rs.map ρ) (ρ k) with
  | none=>exact absurd hb hd'
  | some b' =>
   have e:b'=b.rn ρ:=by
    unfold rst at hb hk
    by_cases h1:k<100
    ·have hl:=h.low k h1
     simp only [h1,true_or,if_true] at hk
     rw [hl.1] at hb
     simp only [h1,true_or,if_true] at hb
     rw [hl.2,hk] at hb
     cases hb
     exact (Rn.bflat hGF hG h1 hk).symm
    ·have hm:k∈rs:=by
      by_cases hm:k∈rs
      ·exact hm
      ·simp [h1,hm] at hk
     simp only [hm,or_true,if_true] at hk
     obtain ⟨c,e1,e2⟩:=h.at' k hm (by omega)
     rw [hk] at e1;cases e1
     have hm':ρ k∈rs.map ρ:=List.mem_map.2 ⟨k,hm,rfl⟩
     simp only [hm',or_true,if_true] at hb
     rw [e2] at hb;cases hb;rfl
   have:=(hsat _ b' hb).1
   rw [e,Blk.rn_obj] at this
   exact this
 ·have e2:=hinj _ _ (h.dom1 hk) (h.dom1 hl) e
  by_cases h1:k<100
  ·by_cases h2:l<100
   ·rw [(h.low k h1).1,(h.low l h2).1] at e2;exact e2
   ·have:=h.big l (Rn.mem hl (by omega)) (by omega)
    rw [(h.low k h1).1] at e2;omega
  ·by_cases h2:l<100
   ·have:=h.big k (Rn.mem hk (by omega)) (by omega)
    rw [(h.low l h2).1] at e2;omega
   ·exact h.inj k (Rn.mem hk (by omega)) l (Rn.mem hl (by omega)) (by omega) (by omega) e2
 ·have:=h.dom1 hd
  rw [(h.low k hk).1] at this |-
  exact hlow k hk this
def rnL (ρ:Nat->Nat) (ws:List (Nat×Blk)):List (Nat×Blk):=ws.map λp=>(ρ p.1,p.2.rn ρ)
theorem ziw {ρ:Nat->Nat} {ws:List (Nat×Blk)} {k:Nat} (h:k∈zab (rnL ρ ws)):∃ q∈zab ws,ρ q=k:=by
 simp only [zab,rnL,List.map_map,List.mem_map,Function.comp] at h |-
 obtain ⟨p,hp,rfl⟩:=h
 exact ⟨p.1,⟨p,hp,rfl⟩,rfl⟩
theorem Fun.rn {f:FuncId} {args:Array Value} {hp hp':Hp} {rs:List Nat} {v:Value} {ws:List (Nat×Blk)} (ρ:Nat->Nat) (hGF:zbg G) (hG:∀ k,k<100->hp k=G k) (h:Rn ρ hp hp' rs) (hi:Fun P G f args hp rs (.ret v ws)) :
  Fun P G f (args.map (ren ρ)) hp' (rs.map ρ) (.ret (ren ρ v) (rnL ρ ws)):=by
 refine ⟨hi.enter,λx hx=>?_,λk b hb=>?_,⟨zfv (λk hk=>h.dom1 hk) hi.fits.1,λk hk=>?_,λk b c h1 h2=>?_,λp hp1=>?_⟩,λr W hgok hsat hinj hlow=>?_⟩
 ·obtain ⟨y,hy,rfl⟩:=Array.mem_map.1 hx
  exact zfv (λk hk=>h.dom1 hk) (hi.ids y hy)
 ·obtain ⟨q,c,h1,rfl,rfl⟩:=h.back hGF hG k b hb
  exact Blk.ids_rn (λk hk=>h.dom1 hk) (hi.closed q c h1)
 ·obtain ⟨q,hq,rfl⟩:=ziw hk
  have h1:=hi.fits.2.1 q hq
  obtain ⟨c,e1,e2⟩:=h.at' q h1.1 h1.2.2
  exact ⟨List.mem_map.2 ⟨q,h1.1,rfl⟩,by unfold dom;rw [e2];simp,h.big q h1.1 h1.2.2⟩
 ·simp only [rnL,List.mem_map,Prod.mk.injEq] at h1 h2
  obtain ⟨p,hp1,e1,rfl⟩:=h1
  obtain ⟨q,hq1,e2,rfl⟩:=h2
  have k1:=hi.fits.2.1 p.1 (zad.2 ⟨p,hp1,rfl⟩)
  have k2:=hi.fits.2.1 q.1 (zad.2 ⟨q,hq1,rfl⟩)
  have e3:=h.inj p.1 k1.1 q.1 k2.1 k1.2.2 k2.2.2 (e1.trans e2.symm)
  have e4:=hi.fits.2.2.1 p.1 p.2 q.2 hp1 (by rw [e3];exact hq1)
  rw [e4]
 ·simp only [rnL,List.mem_map] at hp1
  obtain ⟨p,hp1,rfl⟩:=hp1
  exact Blk.ids_rn (λk hk=>h.dom1 hk) (hi.fits.2.2.2 p hp1)
 ·obtain ⟨s1,s2,s3⟩:=h.sat hGF hG hi.closed hsat hinj hlow
  have hrun:=hi.run (λk=>r (ρ k)) W hgok s1 s2 s3
  have ha:(args.map (ren ρ)).map (ren r)=args.map (ren λk=>r (ρ k)):=by
   rw [Array.map_map]
   exact Array.map_congr_left λx _=>zcc r ρ x
  rw [ha]
  refine hrun.mono λe W' ⟨he,ht⟩=>⟨?_,ht.os,ht.tape,ht.output,ht.size,λk hk hnw=>ht.same k hk λp hp1=>?_,λp hp1=>?_,by simp,by simp⟩
  ·rw [he,zcc]
  ·exact hnw (ρ p.1,p.2.rn ρ) (by simp only [rnL,List.mem_map];exact ⟨p,hp1,rfl⟩)
  ·simp only [List.append_nil,rnL,List.mem_map] at hp1
   obtain ⟨p,hp1,rfl⟩:=hp1
   have h1:=ht.has p (by simpa using hp1)
   exact ⟨by rw [Blk.rn_obj];exact h1.1,Blk.ids_rn (D:=zcu (dom (rst hp rs)) []) (λk hk=>by rw [zg6] at hk |-;exact h.dom1 hk) h1.2⟩
theorem Ret.up {G':Hp} {f:FuncId} {args:Array Value} {v:Value} (h:Ret P G f args v) (hg:∀ W,GOK G' W->GOK G W):Ret P G' f args v:=⟨h.1,h.2.1,h.2.2.1,λW hW=>h.2.2.2 W (hg W hW)⟩
theorem zmz.up {G':Hp} {f:FuncId} {args:Array Value} {o:Out} (h:zmz P G f args o) (hg:∀ W,GOK G' W->GOK G W):zmz P G' f args o:=⟨h.1,h.2.1,h.2.2.1,λW hW=>h.2.2.2 W (hg W hW)⟩
end
structure FunS (P:Program) (G:Hp) (f:FuncId) (args:Array Value) (hp:Hp) (rs:List Nat) (R:Value->List (Nat×Blk)->Prop):Prop where
 enter:∀ a w,(callFunc f a).run P w=.ok (.enter f a) w
 ids:∀ x∈args,zan (dom (rst hp rs)) x
 closed:∀ k b,rst hp rs k=some b->b.ids (dom (rst hp rs))
 fits:∀ v ns,R v ns->zan (zcu (dom (rst hp rs)) ns) v/\(∀ k∈zab ns,100<=k/\¬dom (rst hp rs) k)/\(∀ k b c,(k,b)∈ns->(k,c)∈ns->b=c)/\∀ p∈ns,p.2.ids (zcu (dom (rst hp rs)) ns)
 run:∀ r W,GOK G W->Sat r (dom (rst hp rs)) (rst hp rs) W->Inj r (dom (rst hp rs))->(∀ k,k<100->dom (rst hp rs) k->r k=k) ->
  zdw P f (args.map (ren r)) W λe W'=>∃ v ns r',R v ns/\(∀ k,dom (rst hp rs) k->r' k=r k)/\e=.returned (ren r' v)/\Turn r' (zcu (dom (rst hp rs)) ns) W W' [] ns
section
variable {P:Program} {G:Hp}
theorem FunS.under {f:FuncId} {args:Array Value} {hp hp':Hp} {rs:List Nat} {R:Value->List (Nat×Blk)->Prop} (h:FunS P G f args hp' rs R) (e:∀ k,(k<100\/k∈rs)->hp' k=hp k):FunS P G f args hp rs R:=by
 have er:rst hp' rs=rst hp rs:=zd6 e
 exact ⟨h.enter,by rw [<-er];exact h.ids,by rw [<-er];exact h.closed,by rw [<-er];exact h.fits,by rw [<-er];exact h.run⟩
def RR (ρ:Nat->Nat) (R:Value->List (Nat×Blk)->Prop) (v':Value) (ns':List (Nat×Blk)):Prop:=∃ v ns,R v ns/\v'=ren ρ v/\ns'=rnL ρ ns
theorem zih {ρ:Nat->Nat} {ns:List (Nat×Blk)} {k:Nat} (h:k∈zab ns):ρ k∈zab (rnL ρ ns):=by
 obtain ⟨p,hp,rfl⟩:=zad.1 h
 exact zad.2 ⟨(ρ p.1,p.2.rn ρ),List.mem_map.2 ⟨p,hp,rfl⟩,rfl⟩
theorem FunS.rn {f:FuncId} {args:Array Value} {hp hp':Hp} {rs:List Nat} {R:Value->List (Nat×Blk)->Prop} (ρ:Nat->Nat) (hGF:zbg G) (hG:∀ k,k<100->hp k=G k) (h:Rn ρ hp hp' rs) (hi:FunS P G f args hp rs R)
  (hnew:∀ v ns,R v ns->∀ k∈zab ns,100<=ρ k/\¬dom (rst hp' (rs.map ρ)) (ρ k)) (hnj:∀ v ns,R v ns->∀ k∈zab ns,∀ l∈zab ns,ρ k=ρ l->k=l) :
  FunS P G f (args.map (ren ρ)) hp' (rs.map ρ) (RR ρ R):=by
 have hext:∀ ns,∀ k,zcu (dom (rst hp rs)) ns k->zcu (dom (rst hp' (rs.map ρ))) (rnL ρ ns) (ρ k):=λns k hk=>hk.elim (λh1=>.inl (h.dom1 h1)) (λh1=>.inr (zih h1))
 refine ⟨hi.enter,λx hx=>?_,λk b hb=>?_,λv' ns' hR'=>?_,λr W hgok hsat hinj hlow=>?_⟩
 ·obtain ⟨y,hy,rfl⟩:=Array.mem_map.1 hx
  exact zfv (λk hk=>h.dom1 hk) (hi.ids y hy)
 ·obtain ⟨q,c,h1,rfl,rfl⟩:=h.back hGF hG k b hb
  exact Blk.ids_rn (λk hk=>h.dom1 hk) (hi.closed q c h1)
 ·obtain ⟨v,ns,hR,rfl,rfl⟩:=hR'
  obtain ⟨f1,f2,f3,f4⟩:=hi.fits v ns hR
  refine ⟨zfv (hext ns) f1,λk hk=>?_,λk b c h1 h2=>?_,λp hp1=>?_⟩
  ·obtain ⟨q,hq,rfl⟩:=ziw hk
   exact hnew v ns hR q hq
  ·simp only [rnL,List.mem_map,Prod.mk.injEq] at h1 h2
   obtain ⟨p,hp1,e1,rfl⟩:=h1
   obtain ⟨q,hq1,e2,rfl⟩:=h2
   have e3:=hnj v ns hR p.1 (zad.2 ⟨p,hp1,rfl⟩) q.1 (zad.2 ⟨q,hq1,rfl⟩) (e1.trans e2.symm)
   rw [f3 p.1 p.2 q.2 hp1 (by rw [e3];exact hq1)]
  ·simp only [rnL,List.mem_map] at hp1
   obtain ⟨p,hp1,rfl⟩:=hp1
   exact Blk.ids_rn (hext ns) (f4 p hp1)
 ·obtain ⟨s1,s2,s3⟩:=h.sat hGF hG hi.closed hsat hinj hlow
  have hrun:=hi.run (λk=>r (ρ k)) W hgok s1 s2 s3
  have ha:(args.map (ren ρ)).map (ren r)=args.map (ren λk=>r (ρ k)):=by
   rw [Array.map_map]
   exact Array.map_congr_left λx _=>zcc r ρ x
  rw [ha]
  refine hrun.mono λe W' ⟨v,ns,r1,hR,hr1,he,ht⟩=>?_
  obtain ⟨f1,f2,f3,f4⟩:=hi.fits v ns hR
  let r2:Nat->Nat:=λk'=>match (zab ns).find? (λk=>ρ k==k') with|some k=>r1 k|none=>r k'
  have e1:∀ k∈zab ns,r2 (ρ k)=r1 k:=λk hk=>by
   show (match (zab ns).find? (λl=>ρ l==ρ k) with|some k=>r1 k|none=>r (ρ k))=r1 k
   cases hf:(zab ns).find? (λl=>ρ l==ρ k) with
   | none=>have:=List.find?_eq_none.1 hf k hk;simp at this
   | some l =>
    have h1:=List.find?_some hf
    have h2:=List.mem_of_find?_eq_some hf
    simp only [beq_iff_eq] at h1
    rw [hnj v ns hR l h2 k hk h1]
  have e2:∀ k,dom (rst hp' (rs.map ρ)) k->r2 k=r k:=λk hk=>by
   show (match (zab ns).find? (λl=>ρ l==k) with|some k=>r1 k|none=>r k)=r k
   cases hf:(zab ns).find? (λl=>ρ l==k) with
   | none=>rfl
   | some l =>
    have h1:=List.find?_some hf
    have h2:=List.mem_of_find?_eq_some hf
    simp only [beq_iff_eq] at h1
    exact absurd hk (h1▸(hnew v ns hR l h2).2)
  have e3:∀ k,zcu (dom (rst hp rs)) ns k->r2 (ρ k)=r1 k:=λk hk=>by
   by_cases hm:k∈zab ns
   ·exact e1 k hm
   ·have hd:=hk.resolve_right hm
    rw [e2 _ (h.dom1 hd),hr1 k hd]
  refine ⟨ren ρ v,rnL ρ ns,r2,⟨v,ns,hR,rfl,rfl⟩,e2,?_,ht.os,ht.tape,ht.output,ht.size,λk hk _=>ht.same k hk (by simp),λp hp1=>?_,λp hp1=>?_,λp hp1 q hq1 hpq=>?_⟩
  ·rw [he,zcc,zcn e3 f1]
  ·simp only [List.nil_append,rnL,List.mem_map] at hp1
   obtain ⟨p,hp1,rfl⟩:=hp1
   have hh:=ht.has p (by simpa using hp1)
   refine ⟨?_,Blk.ids_rn (hext ns) hh.2⟩
   rw [Blk.rn_obj,Blk.obj_congr e3 hh.2]
   show W'.heap[r2 (ρ p.1)]? = _
   rw [e1 _ (zad.2 ⟨p,hp1,rfl⟩)]
   exact hh.1
  ·simp only [rnL,List.mem_map] at hp1
   obtain ⟨p,hp1,rfl⟩:=hp1
   show W.heap.size<=r2 (ρ p.1)
   rw [e1 _ (zad.2 ⟨p,hp1,rfl⟩)]
   exact ht.fresh p hp1
  ·simp only [rnL,List.mem_map] at hp1 hq1
   obtain ⟨p,hp1,rfl⟩:=hp1
   obtain ⟨q,hq1,rfl⟩:=hq1
   have k1:=zad.2 ⟨p,hp1,rfl⟩
   have k2:=zad.2 ⟨q,hq1,rfl⟩
   have hpq':r2 (ρ p.1)=r2 (ρ q.1):=hpq
   rw [e1 _ k1,e1 _ k2] at hpq'
   have:=ht.apart p hp1 q hq1 hpq'
   show ρ p.1=ρ q.1
   rw [this]
theorem z6c {f:FuncId} {fn:Func} {c:Code} {args:Array Value} {hp:Hp} {rs:List Nat} {R:Value->List (Nat×Blk)->Prop} {B:Nat} (hGF:zbg G) (hG:∀ k,k<100->hp k=G k) (hf:P.funcs[f]? = some fn) (hb:fn.body=some c) (hcall:∀ a w,(callFunc f a).run P w=.ok (.enter f a) w)
  (ha:∀ x∈args,zan (dom (rst hp rs)) x) (hcl:∀ k b,rst hp rs k=some b->b.ids (dom (rst hp rs)))
  (hfit:∀ v ns,R v ns->zan (zcu (dom (rst hp rs)) ns) v/\(∀ k∈zab ns,100<=k/\¬dom (rst hp rs) k)/\(∀ k b c,(k,b)∈ns->(k,c)∈ns->b=c)/\∀ p∈ns,p.2.ids (zcu (dom (rst hp rs)) ns))
  (hn:args.size<=fn.ntmps) (hB:100<=B) (hfree:∀ x,B<=x->rst hp rs x=none)
  (h:∀ C:Ctx,C.G=G->C.hp0=rst hp rs->C.Y=none->GW P C fn.ntmps [] none c ⟨λt=>args.getD t undef,rst hp rs,B,0⟩ λe s=>(e=.normal\/e=.ret)/\(∀ k,dom (rst hp rs) k->s.hp k=rst hp rs k) /\
   ∃ v ns ρ,R v ns/\(∀ k,dom (rst hp rs) k->ρ k=k)/\(∀ p∈ns,¬dom (rst hp rs) (ρ p.1)/\100<=ρ p.1)/\(∀ p∈ns,∀ q∈ns,ρ p.1=ρ q.1->p.1=q.1)/\zmq P fn.results.toList s.ts s.hp=some (ren ρ v)/\∀ p∈ns,s.hp (ρ p.1)=some (p.2.rn ρ)):FunS P G f args hp rs R:=by
 refine ⟨hcall,ha,hcl,hfit,λr W hgok hsat hinjr hlow=>callsIn_of_wp_marks hf hb ⟨fn,hf⟩ ?_⟩
 have ltW:∀ k,dom (rst hp rs) k->r k<W.heap.size:=λk hk=>by
  unfold dom at hk
  cases hb:rst hp rs k with
  | none=>exact absurd hb hk
  | some b=>exact (Array.getElem?_eq_some_iff.1 (hsat k b hb).1).1
 let im:Nat->Prop:=λj=>∃ i,dom (rst hp rs) i/\r i=j
 let C:Ctx:=⟨zdg W im,rst hp rs,r,G,none⟩
 have hi:GI P C fn.ntmps [] r ⟨λt=>args.getD t undef,rst hp rs,B,0⟩ { tmps:=args.map (ren r)++Array.replicate (fn.ntmps - (args.map (ren r)).size) undef,defers:=[] } W:=by
  refine ⟨⟨by simp;omega,λt=>?_,hsat,hinjr,⟨λk=>k<W.heap.size/\¬im k,[],⟨λ_=>Iff.rfl,rfl,rfl,rfl,Nat.le_refl _,λ_ _=>rfl⟩,λk hk=>hk.1,λi hi _ hS=>hS.2 ⟨i,hi,rfl⟩,⟨rfl,List.nodup_nil⟩,by simp⟩,
   λi hi=>⟨hi,rfl⟩,λk hk=>?_,hlow⟩,hfree,hB,hGF,λy hy=>by cases hy⟩
  ·right
   dsimp only
   by_cases ht:t<args.size
   ·have hm:args[t]∈args:=Array.getElem_mem ht
    have e:args.getD t undef=args[t]:=by simp [Array.getD,ht]
    rw [e]
    refine ⟨?_,ha _ hm⟩
    have:t<(args.map (ren r)).size:=by simpa using ht
    simp [Array.getElem?_append_left this,ht]
   ·have e:args.getD t undef=undef:=by simp [Array.getElem?_eq_none (Nat.le_of_not_lt ht)]
    rw [e]
    refine ⟨?_,zcl _⟩
    rw [zb9]
    simp only [Array.getD_eq_getD_getElem?]
    rw [Array.getElem?_append_right (by simpa using Nat.le_of_not_lt ht),Array.getElem?_replicate]
    split<;>rfl
  ·show rst hp rs k=G k
   simp [rst,hk,hG k hk]
 refine wpIn_mono (h C rfl rfl rfl r _ W hi) ?_
 rintro e a' W' ⟨s',r',⟨he,hhp,v,ns,ρ,hRv,hρ0,hρ,hinj,hr,hns⟩,hi'⟩
 obtain ⟨S,ms,⟨hS,os,tape,output,size,hsame⟩,hS1,hS2,⟨hdef,hnd⟩,hms⟩:=hi'.ri.ext
 have hkeep:∀ i,dom (rst hp rs) i->dom s'.hp i/\r' i=r i:=hi'.ri.keep
 obtain ⟨_,hk100,_,hbl⟩:=hfit v ns hRv
 have mine:∀ W'':World,(∀ k,k∉ms->W''.heap[k]? = W'.heap[k]?)->∀ i b,s'.hp i=some b->W''.heap[r' i]? = some (b.obj r'):=λW'' hW i b hb=>by
  rw [hW _ (λhm=>hi'.ri.ne_mark (by unfold dom;rw [hb];simp) (hms _ hm).1 rfl)]
  exact (hi'.ri.sat i b hb).1
 have hend:∀ W'':World,W''.heap.size=W'.heap.size->W''.os=W'.os->W''.tape=W'.tape->W''.output=W'.output->(∀ k,k∉ms->W''.heap[k]? = W'.heap[k]?) ->
   LeavesIn (Fw P none) 0 P fn a'.tmps (λe W'=>∃ v ns r',R v ns/\(∀ k,dom (rst hp rs) k->r' k=r k)/\e=.returned (ren r' v)/\Turn r' (zcu (dom (rst hp rs)) ns) W W' [] ns) [] .returning W'':=λW'' e1 e2 e3 e4 e5=>by
  have hsat':Sat r' (dom s'.hp) s'.hp W'':=λk b hk=>⟨mine W'' e5 k b hk,(hi'.ri.sat k b hk).2⟩
  have hrun:=zc8 (fn:=fn) hi'.ri.rel hsat' hr
  rw [zcc] at hrun
  refine ⟨_,hrun,v,ns,λk=>r' (ρ k),hRv,λk hk=>by show r' (ρ k)=r k;rw [hρ0 k hk];exact (hkeep k hk).2,rfl,?_⟩
  refine ⟨e2.trans os,e3.trans tape,e4.trans output,by rw [e1];exact size,λk hk _=>?_,λp hp1=>?_,λp hp1=>?_,λp hp1 q hq1 hpq=>?_⟩
  ·by_cases hk':im k
   ·obtain ⟨i,hi1,rfl⟩:=hk'
    cases hb:rst hp rs i with
    | none=>exact absurd hb hi1
    | some b =>
     have e:s'.hp i=some b:=(hhp i hi1).trans hb
     have:=mine W'' e5 i b e
     rw [(hkeep i hi1).2,Blk.obj_congr (λk hk=>(hkeep k hk).2) (hcl i b hb)] at this
     rw [this,(hsat i b hb).1]
   ·have hSk:S k:=(hS k).2 ⟨hk,hk'⟩
    rw [e5 k (λhm=>(hms k hm).2.1 hSk)]
    exact hsame k hSk
  ·have hp1:p∈ns:=by simpa using hp1
   refine ⟨?_,hbl p hp1⟩
   have:=mine W'' e5 _ _ (hns p hp1)
   rw [Blk.rn_obj] at this
   exact this
  ·have hd:dom s'.hp (ρ p.1):=by unfold dom;rw [hns p hp1];simp
   have h1:=hS2 _ hd (hρ p hp1).2
   rw [hS] at h1
   refine Classical.byContradiction λhlt=>h1 ⟨by omega,λ⟨i,hi1,e⟩=>?_⟩
   have:=hi'.ri.inj i (ρ p.1) (hkeep i hi1).1 hd ((hkeep i hi1).2.trans e)
   exact (hρ p hp1).1 (this▸hi1)
  ·have hd:∀ x∈ns,dom s'.hp (ρ x.1):=λx hx=>by unfold dom;rw [hns x hx];simp
   exact hinj p hp1 q hq1 (hi'.ri.inj _ _ (hd p hp1) (hd q hq1) hpq)
 rcases he with rfl|rfl
 ·show LeavesInM _ _ _ _ _ _ a'.defers _ _
  rw [hdef,List.append_nil]
  exact zcx (by simp) ms W' hnd (λD hD=>(hms D hD).1) hend
 ·show LeavesInM _ _ _ _ _ _ a'.defers _ _
  rw [hdef,List.append_nil]
  exact zcx (by simp) ms W' hnd (λD hD=>(hms D hD).1) hend
end
section
variable {P:Program} {C:Ctx} {n:Nat} {d:List Deferred} {ro:Option Nat} {s:GS} {K:Exit->GS->Prop}
theorem zia {r:Nat->Nat} {ts:Nat->Value} {hp:Hp} {yc:Nat} {a:Act} {W:World} {mn:Nat} {o:Oper} {c:Call} {f:Operand} {g:FuncId} {cap:Array Value} {rs:List Nat} {R:Value->List (Nat×Blk)->Prop} {next:Act->World->Prop} {Q:Exit->Act->World->Prop}
  (hGF:zbg C.G) (h:RI C n d r ts hp yc a W) (hd:∀ dd,o.dst=some dd->dd<n)
  (ho:o.op=.call c) (hc:c.callee=.value f) (hf:okT ts f) (hgf:gev ts f=.func (.func g) #[] cap) (hcp:cap.all zbj=true) (ha:∀ x∈c.args.toList,okX ts hp x) (hr:FunS P C.G g (c.args.map (gev ts)++cap) hp rs R)
  (hfr:∀ v ns,R v ns->∀ k∈zab ns,hp k=none)
  (hn:∀ v ns,R v ns->∀ r' a' W',RI C n d r' (zcq ts o.dst v) (zbb hp ns) yc a' W'->next a' W'):o.wpIn (Fw P ro) mn P a W next Q:=by
 have hR:=h.rel
 have hS:=h.sat
 have hlow:=h.low
 have hD:∀ k,dom (rst hp rs) k->dom hp k:=λk hk=>by
  unfold dom at hk |-
  cases hb:rst hp rs k with
  | none=>exact absurd hb hk
  | some b=>rw [zcy hb];simp
 have hRo:zo0 o r (dom hp) ts a:=λt _=>hR t
 have h1:=ev hRo (x:=f) (by simp [ho,hc,Op.operands,Call.operands]) (zly (hp:=hp) hf) hlow (λ_ _ h=>h)
 rw [hgf] at h1
 have h3:a.eval f=.func (.func g) #[] (cap.map (zam r)):=by rw [h1.1];simp [ren,zay,zaj]
 have hargs:c.args.map a.eval=(c.args.map (gev ts)).map (ren r):=by
  rw [Array.map_map]
  exact Array.map_congr_left λx hx=>(ev hRo (x:=x) (by simp [ho,Op.operands,Call.operands,hx]) (ha x (by simpa using hx)) hlow (λ_ _ h=>h)).1
 have hrun:(execOp a.eval o).run P W=.ok (.enter g ((c.args.map (gev ts)).map (ren r)++cap.map (zam r))) W:=by
  simp [execOp,ho,resolve,hc,h3,Deferred.ofValue,invoke,hargs,hr.enter]
 have hS':Sat r (dom (rst hp rs)) (rst hp rs) W:=λk b hk=>⟨(hS k b (zcy hk)).1,hr.closed k b hk⟩
 have hS2:Sat r (dom hp) (rst hp rs) W:=λk b hk=>hS k b (zcy hk)
 have hcall:=hr.run r W (zvn hGF (λk hk=>h.glob k hk) hS2 hlow hD) hS' (λk l hk hl=>h.inj k l (hD k hk) (hD l hl)) (λk hk hd=>hlow k hk (hD k hd))
 have hcap:∀ x∈cap,ren r x=zam r x:=λx hx=>zb5 (Array.all_eq_true_iff_forall_mem.1 hcp x hx)
 have e2:(c.args.map (gev ts)).map (ren r)++cap.map (zam r)=(c.args.map (gev ts)++cap).map (ren r):=by
  rw [Array.map_append];congr 1;exact Array.map_congr_left λx hx=>(hcap x hx).symm
 refine zdj (R:=λu W'=>next (a.put o.dst u) W') (Rp:=λ_ _=>False) (by rw [ho];intro c;simp) ?_ (λu W' h=>h) (λpv W' h=>h.elim)
 unfold zjx
 rw [hrun]
 dsimp only
 rw [e2]
 refine hcall.mono λe W'' he=>?_
 obtain ⟨v,ns,r1,hRv,hr1,rfl,ht⟩:=he
 obtain ⟨f1,f2,f3,f4⟩:=hr.fits v ns hRv
 have hfree:=hfr v ns hRv
 let r2:Nat->Nat:=λk=>if k∈zab ns then r1 k else r k
 have e0:∀ k,k∈zab ns->r2 k=r1 k:=λk hk=>by simp [r2,hk]
 have e1:∀ k,zcu (dom (rst hp rs)) ns k->r2 k=r1 k:=λk hk=>by
  by_cases hm:k∈zab ns
  ·exact e0 k hm
  ·simp only [r2,if_neg hm];exact (hr1 k (hk.resolve_right hm)).symm
 have hmono:∀ k,zcu (dom (rst hp rs)) ns k->zcu (dom hp) ns k:=λk hk=>hk.imp (hD k) id
 have e3:∀ k,dom hp k->r2 k=r k:=λk hk=>by simp only [r2,if_neg (λh=>hk (hfree k h))]
 have hv:ren r1 v=ren r2 v:=(zcn e1 f1).symm
 show next (a.put o.dst (ren r1 v)) W''
 rw [hv]
 refine hn v ns hRv r2 _ _ ?_
 have:=h.after (dst:=o.dst) hd (e:=⟨v,[],[],ns,none,false⟩) e3 (zce hmono f1) ⟨ht.os,ht.tape,ht.output,ht.size,λk hk _=>ht.same k hk (by simp),λp hp1=>?_,λp hp1=>by rw [e0 _ (zad.2 ⟨p,hp1,rfl⟩)];exact ht.fresh p hp1,
  λp hp1 q hq1 h=>ht.apart p hp1 q hq1 (by rw [<-e0 _ (zad.2 ⟨p,hp1,rfl⟩),<-e0 _ (zad.2 ⟨q,hq1,rfl⟩)];exact h)⟩ (by simp [zab]) (λk hk=>⟨hfree k hk,(f2 k hk).1⟩)
 ·simpa using this
 ·have hp1:p∈ns:=by simpa using hp1
  have hh:=ht.has p (by simpa using hp1)
  rw [e0 _ (zad.2 ⟨p,hp1,rfl⟩),Blk.obj_congr e1 hh.2]
  exact ⟨hh.1,Blk.ids_mono hmono hh.2⟩
end
end Go.Gy
