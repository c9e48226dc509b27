/-
  Lemmas of this claim, in their order (GyV, GyS, GyN, GyP, GyO, GyO2, GyO3, GyL, GyK, GyT, GyK2, GyK3, GyK4).
  Conditions: those of each theorem.
-/
import Derived.Test.YtamodcpmplmaoaaGreatDoorGz01
import Derived.Test.YtamodcpmplmaoaaGreatDoorProg
import Derived.WalkKit
import Derived.ArgAppend
set_option linter.unusedSimpArgs false
set_option linter.unusedVariables false
namespace Go.Gy
open Go Go.RowKit
theorem fA {p:Prop} (h:p:=by rw [h]):p:=h
theorem nG {p:Prop} (h:p:=by rw [h1,h2]):p:=h
theorem lJ {p:Prop} (h:p:=by rw [h,h1]):p:=h
theorem C8 {p:Prop} (h:p:=by unfold zq NY;simp only;split<;>simp_all):p:=h
theorem Hv {p:Prop} (h:p:=by
 by_cases e:j=k
 ·subst e;simp [ho]
 ·have:k+1 - 1 - j=(k - 1 - j)+1:=zO;rw [this,rO];exact hs j zO):p:=h
abbrev rO := @List.getElem?_cons_succ
abbrev jt := @Nat.not_lt_zero
abbrev rR := @List.size_toArray
abbrev j6 := @List.length_nil
abbrev j7 := @Bool.not_false
abbrev oY := @Bool.not_eq_true'
abbrev cD := @Nat.zero_add
abbrev qE := Option Addr

theorem nr {α:Sort _} {a b:α} (h:a=b):a=b:=h
section
variable {P:Program} {G:Hp} {V:XV} {yc:Nat} {ts:fp} {hp:Hp} {nk:Nat} {C:Eff->Prop} {dst:Option Tmp} {type:TypeId} {pos:String} {after:Array Edge} {guard:Option (Nat×Bool)}

@[simp] theorem au1 (b:Bool):nj (.bool b)=True:=nr rfl
@[simp] theorem ayo (k:IntKind) (n:Int):nj (.int k n)=True:=nr rfl
@[simp] theorem aoQ (s:ByteArray):nj (.string s)=True:=nr rfl
@[simp] theorem amB (a:qE):nj (.pointer a)=True:=nr rfl
@[simp] theorem asr (a:qE) (n c:Nat):nj (.slice a n c)=True:=nr rfl
@[simp] theorem ayp (a:Option Nat):nj (.map a)=True:=nr rfl
@[simp] theorem au2 (f:Fn) (a b:ca):nj (.func f a b)=True:=nr rfl
@[simp] theorem asq (t:TypeId) (v:Value):nj (.iface t v)=True:=nr rfl
@[simp] theorem ayn (cs:ca):nj (.agg cs)=True:=nr rfl
@[simp] theorem ass (cs:ca):nj (.tuple cs)=True:=nr rfl

@[simp] theorem au5 (t:Tmp):okX ts hp (.tmp t)=nj (ts t):=nr rfl
@[simp] theorem aoR (v:Value):okX ts hp (.const v)=(bp v=true):=nr rfl
@[simp] theorem amG (g:Nat):okX ts hp (.global g)=(g<100/\(hp g).isSome=true):=nr rfl
@[simp] theorem asx (f:FuncId):okX ts hp (.func f)=True:=nr rfl
@[simp] theorem auq (t:Tmp):gev ts (.tmp t)=ts t:=nr rfl
@[simp] theorem aol (v:Value):gev ts (.const v)=v:=nr rfl
@[simp] theorem akM (g:Nat):gev ts (.global g)=.pointer (some ⟨g,0,none⟩):=nr rfl
@[simp] theorem aqg (f:FuncId):gev ts (.func f)=.func (.func f) #[] #[]:=nr rfl

@[simp] theorem an9 (k:IntKind) (n:Int):qK (.int k n)=true:=nr rfl
@[simp] theorem aoc (k:IntKind) (n:Int):bU (.int k n)=true:=nr rfl
@[simp] theorem afK (s:ByteArray):bU (.string s)=true:=nr rfl
@[simp] theorem afJ:bU (.pointer none)=true:=nr rfl
@[simp] theorem aaM (n c:Nat):bU (.slice none n c)=true:=nr rfl
@[simp] theorem akF (b:Bool):pX (.bool b)=true:=nr rfl
@[simp] theorem aob (k:IntKind) (n:Int):pX (.int k n)=true:=nr rfl
@[simp] theorem aoa (cs:ca):pX (.agg cs)=cs.all bU:=nr rfl
@[simp] theorem akG (b:Bool):bp (.bool b)=true:=nr rfl
@[simp] theorem aof (k:IntKind) (n:Int):bp (.int k n)=true:=nr rfl
@[simp] theorem afL (s:ByteArray):bp (.string s)=true:=nr rfl
@[simp] theorem aef:bp .nilFunc=true:=nr rfl
@[simp] theorem aaN:bp .nilIface=true:=nr rfl
@[simp] theorem aaO (n c:Nat):bp (.slice none n c)=true:=nr rfl
@[simp] theorem aiu (t:TypeId) (v:Value):bp (.iface t v)=qK v:=nr rfl
@[simp] theorem aod (cs:ca):bp (.agg cs)=cs.all bU:=nr rfl
@[simp] theorem aiv (cs:ca):bp (.tuple cs)=cs.all pX:=nr rfl

@[simp] theorem as2 (k:IntKind) (n:Int):qR (.int k n)=true:=nr rfl
@[simp] theorem ahF (a:qE):qR (.pointer a)=true:=nr rfl
@[simp] theorem ane (a:qE) (n c:Nat):qR (.slice a n c)=true:=nr rfl
@[simp] theorem ag9 (b:Bool):cI (.bool b)=true:=nr rfl
@[simp] theorem ajs (k:IntKind) (n:Int):cI (.int k n)=true:=nr rfl
@[simp] theorem Zn (a:qE):cI (.pointer a)=true:=nr rfl
@[simp] theorem aez (a:qE) (n c:Nat):cI (.slice a n c)=true:=nr rfl
@[simp] theorem aha (f:Fn) (a b:ca):cI (.func f a b)=true:=nr rfl
@[simp] theorem ajr (cs:ca):cI (.agg cs)=cs.all qR:=nr rfl

@[simp] theorem ajp (b:Bool):kz (.bool b)=true:=nr rfl
@[simp] theorem amD (k:IntKind) (n:Int):kz (.int k n)=true:=nr rfl
@[simp] theorem ag1 (a:qE) (n c:Nat):kz (.slice a n c)=true:=nr rfl
@[simp] theorem amC (cs:ca):kz (.agg cs)=true:=nr rfl

@[simp] theorem amR (k:IntKind) (n:Int):eh (.int k n)=true:=nr rfl
@[simp] theorem ac9 (a:qE):eh (.pointer a)=true:=nr rfl
@[simp] theorem ake (b:Bool):(Value.bool b).cells=#[.bool b]:=nr rfl
@[simp] theorem anX (k:IntKind) (n:Int):(Value.int k n).cells=#[.int k n]:=nr rfl
@[simp] theorem aec (a:qE):(Value.pointer a).cells=#[.pointer a]:=nr rfl
@[simp] theorem aim (a:qE) (n c:Nat):(Value.slice a n c).cells=#[.slice a n c]:=nr rfl
@[simp] theorem akf (f:Fn) (a b:ca):(Value.func f a b).cells=#[.func f a b]:=nr rfl
@[simp] theorem anW (cs:ca):(Value.agg cs).cells=cs:=nr rfl

@[simp] theorem avF {α:Type} (f:Nat->α) (k:Nat) (v:α) (j:Nat):upd f k v j=if j=k then v else f j:=nr rfl
@[simp] theorem atq:bH hp []=hp:=nr rfl
@[simp] theorem apr (k:Nat) (b:Blk) (l:cf):bH hp ((k,b)::l)=bH (upd hp k (some b)) l:=nr rfl
@[simp] theorem ao7 (d:Tmp) (v:Value):cJ ts (some d) v=upd ts d v:=nr rfl
@[simp] theorem ao6 (v:Value):cJ ts none v=ts:=nr rfl
@[simp] theorem ar3:ak []=[]:=nr rfl
@[simp] theorem aoG (k:Nat) (b:Blk) (l:cf):ak ((k,b)::l)=k::ak l:=nr rfl
@[simp] theorem avt (k:Nat) (tr:Tr):oa k [] [] tr=tr:=nr rfl
@[simp] theorem avu (k x:Nat) (l wr:List Nat) (tr:Tr):oa k (x::l) wr tr=(k,x::l,wr)::tr:=nr rfl
@[simp] theorem aBG (v:Value) (rs:List Nat):(val v rs).v=v:=nr rfl
@[simp] theorem ay9 (v:Value) (rs:List Nat):(val v rs).rs=rs:=nr rfl
@[simp] theorem aza (v:Value) (rs:List Nat):(val v rs).ws=[]:=nr rfl
@[simp] theorem ay8 (v:Value) (rs:List Nat):(val v rs).ns=[]:=nr rfl
@[simp] theorem avG (v:Value) (rs:List Nat):(val v rs).pan=none:=nr rfl
@[simp] theorem azb (v:Value) (rs:List Nat):(val v rs).yl=false:=nr rfl
@[simp] theorem aua (rs:List Nat) (v:Value) (ws:cf):(Res.ret v ws).eff rs=⟨v,rs,ws,[],none,false⟩:=nr rfl
@[simp] theorem at6 (rs:List Nat) (v:Value) (ns:cf):(Res.new v ns).eff rs=⟨v,rs,[],ns,none,false⟩:=nr rfl
@[simp] theorem at7 (rs:List Nat) (v:Value):(Res.pan v).eff rs=⟨fP,rs,[],[],some v,false⟩:=nr rfl
@[simp] theorem aus (k:Nat):tO k=.pointer (some ⟨k,0,none⟩):=nr rfl
@[simp] theorem anl (c:ca) (o:Nat):gv c o []=c:=nr rfl
@[simp] theorem ajI (c:ca) (o:Nat) (v:Value) (l:List Value):gv c o (v::l)=gv (c.setIfInBounds o v) (o+1) l:=nr rfl

def Qd (v:Value) (w:Bool):Option Bool :=
 match v with
 | .bool b=>some (b==w)
 | .tuple _=>some false
 | _=>none
@[simp] theorem anw (b w:Bool):Qd (.bool b) w=some (b==w):=nr rfl
@[simp] theorem ajR (w:Bool):Qd undef w=some false:=nr rfl
def Qc (d:Option Tmp) (w:Bool) (ts:fp):Option Bool :=
 match d with
 | some d=>Qd (ts d) w
 | none=>some false
@[simp] theorem anv (d:Tmp) (w:Bool):Qc (some d) w ts=Qd (ts d) w:=nr rfl
@[simp] theorem Qe (ops:Array Oper) (op:Op) (j:Nat) (w:Bool):gp ops ⟨dst,op,type,pos,after,some (j,w)⟩ ts=Qc ((ops[j]?).bind (·.dst)) w ts:=by
 unfold gp Qc Qd
 rfl

def YR (w:Option Bool) (a b:Prop):Prop :=
 match w with
 | some true=>a
 | some false=>b
 | none=>False
@[simp] theorem Cm (a b:Prop):YR (some true) a b=a:=nr rfl
@[simp] theorem anz (a b:Prop):YR (some false) a b=b:=nr rfl
def oT (seen:List (Option Tmp)) (k:Nat) (o:Oper) (ts:fp):Option Bool :=
 match o.guard with
 | none=>some true
 | some (j,w)=>if j<k then Qc ((seen[k - 1 - j]?).bind id) w ts else none
@[simp] theorem ah4 (seen:List (Option Tmp)) (k:Nat) (op:Op):oT seen k ⟨dst,op,type,pos,after,none⟩ ts=some true:=nr rfl
@[simp] theorem Nx (seen:List (Option Tmp)) (k:Nat) (op:Op) (j:Nat) (w:Bool):oT seen k ⟨dst,op,type,pos,after,some (j,w)⟩ ts=if j<k then Qc ((seen[k - 1 - j]?).bind id) w ts else none:=nr rfl
structure QQ where
 q:(Nat->Value)->Hp->Tr->Nat->Prop
 p:Value->Tr->Prop
def X1 (pan:Option Value) (a:Prop) (b:fQ):Prop :=
 match pan with
 | none=>a
 | some v=>b v
@[simp] theorem ao1 (a:Prop) (b:fQ):X1 none a b=a:=nr rfl
@[simp] theorem ao2 (a:Prop) (b:fQ) (v:Value):X1 (some v) a b=b v:=nr rfl
@[congr] theorem amO {pan asL:Option Value} {a:Prop} {b:fQ} (h:pan=asL):X1 pan a b=X1 asL a b:=fA
def mz (P:Program) (G:Hp) (V:XV) (base:Nat) (Q:QQ):List (Option Tmp)->Nat->List Oper->(Nat->Value)->Hp->Tr->Nat->Bool->Bool->Prop
 | _,_,[],ts,hp,tr,yc,_,_=>Q.q ts hp tr yc
 | seen,k,o::rest,ts,hp,tr,yc,wr,yd=>YR (oT seen k o ts) (opX P G V yc o ts hp (base+8*k) λe=>(e.yl=true->e.ws=[]->yd=false)/\X1 e.pan
    (mz P G V base Q (o.dst::seen) (k+1) rest (cJ ts o.dst e.v) (bH hp (e.ws++e.ns)) (oa k (e.rs++ak e.ns) (ak e.ws++ak e.ns) tr) (if e.yl then yc+1 else yc) (wr||!e.ws.isEmpty) (yd||(e.yl&&e.ws.isEmpty)))
    (λpv=>(V.dr=true->rest.isEmpty=true)/\(wr||!e.ws.isEmpty)=false/\Q.p pv (oa k (e.rs++ak e.ns) (ak e.ws++ak e.ns) tr)))
   (unD o ts/\mz P G V base Q (o.dst::seen) (k+1) rest (cJ ts o.dst undef) hp tr yc wr yd)
theorem Kh {ops:Array Oper} {seen:List (Option Tmp)} {k:Nat} {o:Oper} {b:Bool} (hs:∀ j,j<k->(seen[k - 1 - j]?).bind id=(ops[j]?).bind (·.dst)) (h:oT seen k o ts=some b):gp ops o ts=some b:=by
 obtain ⟨dst,op,type,pos,after,guard⟩:=o
 cases guard with
 | none=>exact h
 | some p =>
  obtain ⟨j,w⟩:=p;rw [Nx] at h;rw [Qe];split at h
  ·rename_i hj;rw [hs j hj] at h;exact h
  ·cases h
theorem XE {C':Eff->Prop} (hc:∀ e,C e->C' e) {m k v:Value} (h:TE hp m k v C):TE hp m k v C':=by
 unfold TE Lp at *
 repeat' split at h
 all_goals first|exact h.elim|exact ⟨h.1,h.2.1,hc _ h.2.2⟩
theorem acb {C':Eff->Prop} (hc:∀ e,C e->C' e) {m k:Value} (h:lkX hp m k C):lkX hp m k C':=by
 unfold lkX XK at *
 repeat' split at h
 all_goals first|exact h.elim|exact ⟨h.1,hc _ h.2⟩
theorem acA {v:Value} {C C':Eff->Prop} (hc:∀ e,C e->C' e) (h:ncX v C):ncX v C':=by
 unfold ncX at *
 split at h
 ·exact hc _ h
 ·exact R2
theorem acq {u:Option TypeDesc} {v w:Value} {C C':Eff->Prop} (hc:∀ e,C e->C' e) (h:msU P nk u v w C):msU P nk u v w C':=by
 unfold msU msM msZ at *
 repeat' split at h
 all_goals first|exact h.elim|exact ⟨h.1,h.2.1,h.2.2.1,h.2.2.2.1,h.2.2.2.2.1,h.2.2.2.2.2.1,hc _ h.2.2.2.2.2.2⟩
theorem JI {o:Oper} {C':Eff->Prop} (hc:∀ e,C e->C' e) (h:opX P G V yc o ts hp nk C):opX P G V yc o ts hp nk C':=by
 have hi:=@XE hp C C' hc;have hl:=@acb hp C C' hc;have hn:=@acA (C:=C) (C':=C') (hc:=hc);have hq:=@acq P nk (C:=C) (C':=C') (hc:=hc);unfold opX KZ yY bl IM qO Cp LF at *
 repeat' split at h
 all_goals first|exact h.elim|exact ⟨h.1,h.2.1,h.2.2.1,h.2.2.2.1,h.2.2.2.2.1,hi h.2.2.2.2.2⟩|exact ⟨h.1,h.2.1,h.2.2.1,h.2.2.2.1,hl h.2.2.2.2⟩|exact ⟨h.1,hn h.2⟩|exact ⟨h.1,h.2.1,hq h.2.2⟩|skip
 all_goals grind
theorem qk {ops:Array Oper} {base:Nat} {Q:QQ}:∀ (l:og) (seen:List (Option Tmp)) (k:Nat) (ts:fp) (hp:Hp) (tr:Tr) (yc:Nat) (wr yd:Bool),(∀ j,j<k->(seen[k - 1 - j]?).bind id=(ops[j]?).bind (·.dst))->(∀ i,l[i]? = ops[k+i]?) ->
  mz P G V base Q seen k l ts hp tr yc wr yd->ph P G V ops base Q.q Q.p k l ts hp tr yc wr yd
 | [],_,_,_,_,_,_,_,_,_,_,h=>h
 | o::l,seen,k,ts,hp,tr,yc,wr,yd,hs,hl,h=>by
  have ho:ops[k]? = some o:=by have:=hl 0;simpa using this.symm
  have pZ:∀ j,j<k+1->((o.dst::seen)[k+1 - 1 - j]?).bind id=(ops[j]?).bind (·.dst):=λj hj=>by
   exact Hv
  have KI:∀ i,l[i]? = ops[k+1+i]?:=λi=>by
   have:=hl (i+1);rw [rO] at this;rw [this];congr 1;omega
  simp only [mz] at h;simp only [ph]
  cases hw:oT seen k o ts with
  | none=>rw [hw] at h;exact h.elim
  | some b =>
   rw [hw] at h;rw [Kh hs hw]
   cases b with
   | true =>
    rw [Cm] at h;refine JI (λe he=>⟨he.1,?_⟩) h;have he:=he.2
    cases oz:e.pan with
    | none=>rw [oz] at he;exact qk l _ _ _ _ _ _ _ _ pZ KI he
    | some pv=>rw [oz] at he;exact ⟨λhd=>by simpa using he.1 hd,he.2⟩
   | false=>exact ⟨h.1,qk l _ _ _ _ _ _ _ _ pZ KI h.2⟩
theorem Zt {Ct:Ctx} {n:Nat} {d:List Deferred} {ro:Option Nat} {s:GS} {K:l6} {id:Nat} {l:og} (pn:List FuncId) (hm:P.follows .mixedOrders=true) (hB:Region.lexFrom .any l.toArray l.length 0 (Array.replicate l.length false)=true) (jJ:(pW n l&&Av P l)=true)
  (h:∀ (Q:QQ),(∀ ts hp tr yc,chk .any l.toArray tr=true->K .normal ⟨ts,hp,s.B+8*l.length,yc⟩->Q.q ts hp tr yc) ->
   (∀ pv tr,chk .any l.toArray tr=true->(∀ yc,K (.panic [{ v:=pv,recovered:=false }]) ⟨r4 l s.ts,s.hp,s.B,yc⟩)->Q.p pv tr)->mz P Ct.G ⟨Ct.Y,pn,true⟩ s.B Q [] 0 l s.ts s.hp [] s.yc false false):GW P Ct n d ro (.region id l.toArray true) s K :=
 aeO pn hm hB jJ λQ Qp hQ xu=>qk (Q:=⟨Q,Qp⟩) l [] 0 _ _ _ _ _ _ (λj hj=>absurd hj (jt j)) (λi=>zS) (h ⟨Q,Qp⟩ hQ xu)
theorem kN {Ct:Ctx} {n:Nat} {d:List Deferred} {ro:Option Nat} {s:GS} {K:l6} {id:Nat} {l:og} (pn:List FuncId) (jJ:(pW n l&&Av P l)=true)
  (h:∀ (Q:QQ),(∀ ts hp tr yc,K .normal ⟨ts,hp,s.B+8*l.length,yc⟩->Q.q ts hp tr yc) ->
   (∀ pv tr,(∀ yc,K (.panic [{ v:=pv,recovered:=false }]) ⟨r4 l s.ts,s.hp,s.B,yc⟩)->Q.p pv tr)->mz P Ct.G ⟨Ct.Y,pn,false⟩ s.B Q [] 0 l s.ts s.hp [] s.yc false false):GW P Ct n d ro (.region id l.toArray false) s K :=
 WE pn jJ λQ Qp hQ xu=>qk (Q:=⟨Q,Qp⟩) l [] 0 _ _ _ _ _ _ (λj hj=>absurd hj (jt j)) (λi=>zS) (h ⟨Q,Qp⟩ hQ xu)

def Va (C:Eff->Prop) (v:Value):Prop:=C (val v [])
@[simp] theorem anU (v:Value):Va C v=C (val v []):=nr rfl
def wh (P:Program) (G:Hp) (V:XV) (base:Nat) (Q:QQ) (seen:List (Option Tmp)) (k:Nat) (rest:og) (dst:Option Tmp) (ts:fp) (hp:Hp) (tr:Tr) (yc:Nat) (wr yd:Bool) (e:Eff):Prop :=
 (e.yl=true->e.ws=[]->yd=false)/\X1 e.pan
    (mz P G V base Q (dst::seen) (k+1) rest (cJ ts dst e.v) (bH hp (e.ws++e.ns)) (oa k (e.rs++ak e.ns) (ak e.ws++ak e.ns) tr) (if e.yl then yc+1 else yc) (wr||!e.ws.isEmpty) (yd||(e.yl&&e.ws.isEmpty)))
    (λpv=>(V.dr=true->rest.isEmpty=true)/\(wr||!e.ws.isEmpty)=false/\Q.p pv (oa k (e.rs++ak e.ns) (ak e.ws++ak e.ns) tr))
@[simp] theorem anZ (base:Nat) (Q:QQ) (seen:List (Option Tmp)) (k:Nat) (rest:og) (tr:Tr) (wr yd:Bool) (v:Value) (rs:List Nat):wh P G V base Q seen k rest dst ts hp tr yc wr yd (val v rs) =
 mz P G V base Q (dst::seen) (k+1) rest (cJ ts dst v) hp (oa k rs [] tr) yc wr yd:=by simp [wh]
@[simp] theorem apW (base:Nat) (Q:QQ) (seen:List (Option Tmp)) (k:Nat) (rest:og) (tr:Tr) (wr yd:Bool) (v:Value) (rs:List Nat) (ws ns:cf):wh P G V base Q seen k rest dst ts hp tr yc wr yd ⟨v,rs,ws,ns,none,false⟩ =
 mz P G V base Q (dst::seen) (k+1) rest (cJ ts dst v) (bH hp (ws++ns)) (oa k (rs++ak ns) (ak ws++ak ns) tr) yc (wr||!ws.isEmpty) yd:=by simp [wh]
@[simp] theorem apX (base:Nat) (Q:QQ) (seen:List (Option Tmp)) (k:Nat) (rest:og) (tr:Tr) (wr yd:Bool) (v:Value):wh P G V base Q seen k rest dst ts hp tr yc wr yd ⟨v,[],[],[],none,true⟩ =
 (yd=false/\mz P G V base Q (dst::seen) (k+1) rest (cJ ts dst v) hp tr (yc+1) wr true):=by simp [wh]
@[simp] theorem an0 (base:Nat) (Q:QQ) (seen:List (Option Tmp)) (k:Nat) (rest:og) (tr:Tr) (wr yd:Bool) (v:Value) (w:Nat) (b:Blk):wh P G V base Q seen k rest dst ts hp tr yc wr yd ⟨v,[w],[(w,b)],[],none,true⟩ =
 mz P G V base Q (dst::seen) (k+1) rest (cJ ts dst v) (bH hp [(w,b)]) (oa k [w] [w] tr) (yc+1) true yd:=by simp [wh,ak]
@[simp] theorem anY (base:Nat) (Q:QQ) (seen:List (Option Tmp)) (k:Nat) (rest:og) (tr:Tr) (wr yd:Bool) (v pv:Value) (rs:List Nat):wh P G V base Q seen k rest dst ts hp tr yc wr yd ⟨v,rs,[],[],some pv,false⟩ =
 ((V.dr=true->rest.isEmpty=true)/\wr=false/\Q.p pv (oa k rs [] tr)):=by simp [wh]
@[simp] theorem ar7 (base:Nat) (Q:QQ) (seen:List (Option Tmp)) (k:Nat) (tr:Tr) (wr yd:Bool):mz P G V base Q seen k [] ts hp tr yc wr yd=Q.q ts hp tr yc:=nr rfl
@[simp] theorem aoH (base:Nat) (Q:QQ) (seen:List (Option Tmp)) (k:Nat) (tr:Tr) (wr yd:Bool) (op:Op) (rest:og):mz P G V base Q seen k (⟨dst,op,type,pos,after,guard⟩::rest) ts hp tr yc wr yd =
  YR (oT seen k ⟨dst,op,type,pos,after,guard⟩ ts) (opX P G V yc ⟨dst,op,type,pos,after,guard⟩ ts hp (base+8*k) (wh P G V base Q seen k rest dst ts hp tr yc wr yd))
   (unD ⟨dst,op,type,pos,after,guard⟩ ts/\mz P G V base Q (dst::seen) (k+1) rest (cJ ts dst undef) hp tr yc wr yd):=nr rfl

@[simp] theorem atm (x:Operand):unD ⟨dst,.move x,type,pos,after,guard⟩ ts=True:=nr rfl
@[simp] theorem atn (c:Operand) (x:Operand) (y:Operand):unD ⟨dst,.pick c x y,type,pos,after,guard⟩ ts=True:=nr rfl
@[simp] theorem apl (T:TypeId) (ps:Array (Nat×Operand)):unD ⟨dst,.build T ps,type,pos,after,guard⟩ ts=True:=nr rfl
@[simp] theorem atl (T:TypeId) (x:Operand):unD ⟨dst,.load T x,type,pos,after,guard⟩ ts=True:=nr rfl
@[simp] theorem ahX (x:Operand):unD ⟨dst,.nilCheck x,type,pos,after,guard⟩ ts=True:=nr rfl
@[simp] theorem apk (b:BinOp) (T:TypeId) (x:Operand) (y:Operand) (T2:TypeId):unD ⟨dst,.binOp b T x y T2,type,pos,after,guard⟩ ts=True:=nr rfl
@[simp] theorem ato (u:UnOp) (T:TypeId) (x:Operand):unD ⟨dst,.unOp u T x,type,pos,after,guard⟩ ts=True:=nr rfl
@[simp] theorem aeF (T:TypeId) (x:Operand) (f:Nat):unD ⟨dst,.fieldAddr T x f,type,pos,after,guard⟩ ts=True:=nr rfl
@[simp] theorem aeG (T:TypeId) (x:Operand) (i:Operand):unD ⟨dst,.indexAddr T x i,type,pos,after,guard⟩ ts=True:=nr rfl
@[simp] theorem apo (t:Tmp) (a:Array Operand) (T:Array TypeId):unD ⟨dst,.call ⟨.value (.tmp t),a,T⟩,type,pos,after,guard⟩ ts=(ts t=undef):=nr rfl
@[simp] theorem apn (f:FuncId) (a:Array Operand) (T:Array TypeId):unD ⟨dst,.call ⟨.value (.func f),a,T⟩,type,pos,after,guard⟩ ts=True:=nr rfl
@[simp] theorem apm (b:Builtin) (a:Array Operand) (T:Array TypeId):unD ⟨dst,.call ⟨.builtin b,a,T⟩,type,pos,after,guard⟩ ts=True:=nr rfl

def abT (u:Option TypeDesc) (T:TypeId) (v:Value) (C:Eff->Prop):Prop :=
 match u with
 | some (.interface _)=>False
 | some _=>C (val (.iface T v) [])
 | none=>False
@[simp ↓] theorem asB (x:Operand):opX P G V yc ⟨dst,.move x,type,pos,after,guard⟩ ts hp nk C=(okX ts hp x/\C (val (gev ts x) [])):=nr rfl
@[simp ↓] theorem amI (x:Operand):opX P G V yc ⟨dst,.assign x,type,pos,after,guard⟩ ts hp nk C=(okX ts hp x/\C (val (gev ts x) [])):=nr rfl
def Wa (ts:fp) (hp:Hp) (v:Value) (x y:Operand) (C:Eff->Prop):Prop :=
 match v with
 | .bool b=>(b=true->okX ts hp x)/\(b=false->okX ts hp y)/\C (val (if b then gev ts x else gev ts y) [])
 | _=>False
@[simp] theorem amQ (b:Bool) (x y:Operand):Wa ts hp (.bool b) x y C=((b=true->okX ts hp x)/\(b=false->okX ts hp y)/\C (val (if b then gev ts x else gev ts y) [])):=nr rfl
@[simp ↓] theorem asC (c x y:Operand):opX P G V yc ⟨dst,.pick c x y,type,pos,after,guard⟩ ts hp nk C=(okX ts hp c/\Wa ts hp (gev ts c) x y C):=nr rfl
def Mk (z:Option Value) (nk:Nat) (T:TypeId) (C:Eff->Prop):Prop :=
 match z with
 | some z=>cI z=true/\bp z=true/\C ⟨tO nk,[],[],[(nk,⟨z.cells,T⟩)],none,false⟩
 | none=>False
@[simp] theorem aie (z:Value) (T:TypeId):Mk (some z) nk T C=(cI z=true/\bp z=true/\C ⟨tO nk,[],[],[(nk,⟨z.cells,T⟩)],none,false⟩):=nr rfl
@[simp ↓] theorem aoS (T:TypeId):opX P G V yc ⟨dst,.alloc T,type,pos,after,guard⟩ ts hp nk C=Mk (dm P T) nk T C:=nr rfl
@[simp ↓] theorem au8 (T:TypeId) (x:Operand):opX P G V yc ⟨dst,.box T x,type,pos,after,guard⟩ ts hp nk C=(okX ts hp x/\cI (gev ts x)=true/\C ⟨tO nk,[],[],[(nk,⟨(gev ts x).cells,T⟩)],none,false⟩):=nr rfl
def Jx (v:Option Value) (k:Nat) (C:Eff->Prop):Prop :=
 match v with
 | some v=>C (val v [k])
 | none=>False
@[simp] theorem ajh (v:Value) (k:Nat):Jx (some v) k C=C (val v [k]):=nr rfl
def Jw (P:Program) (T:TypeId) (b:Option Blk) (k off:Nat) (C:Eff->Prop):Prop :=
 match b with
 | some b=>Jx (fB P T b off) k C
 | none=>False
@[simp] theorem A9 (T t:TypeId) (c:ca) (off:Nat):fB P T ⟨c,.ty t⟩ off=eV P T c off:=nr rfl
@[simp] theorem ajg (T:TypeId) (b:Blk) (k off:Nat):Jw P T (some b) k off C=Jx (fB P T b off) k C:=nr rfl
def VO (P:Program) (T:TypeId) (hp:Hp) (v:Value) (C:Eff->Prop):Prop :=
 match v with
 | .pointer (some ⟨k,off,none⟩)=>Jw P T (hp k) k off C
 | _=>False
@[simp] theorem aoK (T:TypeId) (k off:Nat):VO P T hp (.pointer (some ⟨k,off,none⟩)) C=Jw P T (hp k) k off C:=nr rfl
@[simp ↓] theorem asA (T:TypeId) (x:Operand):opX P G V yc ⟨dst,.load T x,type,pos,after,guard⟩ ts hp nk C=(okX ts hp x/\VO P T hp (gev ts x) C):=nr rfl
def Bp (P:Program) (T:TypeId) (b:Option Blk) (k off:Nat) (w:Value) (C:Eff->Prop):Prop :=
 match b with
 | some b=>b.T.own=true/\cI w=true/\bo P T=some w.cells.size/\off+w.cells.size<=b.c.size/\100<=k/\C ⟨undef,[k],[(k,⟨gv b.c off w.cells.toList,b.T⟩)],[],none,false⟩
 | none=>False
@[simp] theorem ahM (T:TypeId) (c:ca) (T':BTy) (k off:Nat) (w:Value):Bp P T (some ⟨c,T'⟩) k off w C=(BTy.own T'=true/\cI w=true/\bo P T=some w.cells.size/\off+w.cells.size<=c.size/\100<=k/\C ⟨undef,[k],[(k,⟨gv c off w.cells.toList,T'⟩)],[],none,false⟩):=nr rfl
def Nr (P:Program) (T:TypeId) (hp:Hp) (v w:Value) (C:Eff->Prop):Prop :=
 match v with
 | .pointer (some ⟨k,off,none⟩)=>Bp P T (hp k) k off w C
 | _=>False
@[simp] theorem ann (T:TypeId) (k off:Nat) (w:Value):Nr P T hp (.pointer (some ⟨k,off,none⟩)) w C=Bp P T (hp k) k off w C:=nr rfl
@[simp ↓] theorem ao0 (T:TypeId) (x y:Operand):opX P G V yc ⟨dst,.store T x y,type,pos,after,guard⟩ ts hp nk C=(okX ts hp x/\okX ts hp y/\Nr P T hp (gev ts x) (gev ts y) C):=nr rfl
@[simp ↓] theorem ajv (T:TypeId) (y:Option Operand):opX P G V yc ⟨dst,.makeMap T y,type,pos,after,guard⟩ ts hp nk C=(y.isNone=true/\C ⟨.map (some nk),[],[],[(nk,mpB [])],none,false⟩):=nr rfl
@[simp] theorem aqc (f:Fn) (a b:ca):fnV (.func f a b)=true:=nr rfl
@[simp] theorem al1 (l:List (ByteArray×Value)) (k:Nat) (s:ByteArray) (v:Value):Lp (some (mpB l)) k s v C=(ix s l=none/\100<=k/\C ⟨undef,[k],[(k,mpB (l++[(s,v)]))],[],none,false⟩):=by simp [Lp,Pj]
@[simp] theorem arL (q:Nat) (s:ByteArray) (v:Value):TE hp (.map (some q)) (.string s) v C=Lp (hp q) q s v C:=nr rfl
@[simp ↓] theorem amK (T:TypeId) (m k x:Operand):opX P G V yc ⟨dst,.insert T m k x,type,pos,after,guard⟩ ts hp nk C=(okX ts hp m/\okX ts hp k/\okX ts hp x/\qT P T=true/\fnV (gev ts x)=true/\TE hp (gev ts m) (gev ts k) (gev ts x) C):=nr rfl
def amm (v:Option Value) (k:Nat) (C:Eff->Prop):Prop:=match v with
 | some v=>fnV v=true/\C (val v [k])
 | none=>False
@[simp] theorem aoJ (v:Value) (k:Nat):amm (some v) k C=(fnV v=true/\C (val v [k])):=nr rfl
@[simp] theorem aoI (l:List (ByteArray×Value)) (k:Nat) (s:ByteArray):XK (some (mpB l)) k s C=amm (ix s l) k C:=by unfold XK amm;rw [o4,Pj];rfl
@[simp] theorem auV (q:Nat) (s:ByteArray):lkX hp (.map (some q)) (.string s) C=XK (hp q) q s C:=nr rfl
@[simp ↓] theorem amL (T:TypeId) (x i:Operand) (ok:Bool):opX P G V yc ⟨dst,.lookup T x i ok,type,pos,after,guard⟩ ts hp nk C=(okX ts hp x/\okX ts hp i/\ok=false/\qT P T=true/\lkX hp (gev ts x) (gev ts i) C):=nr rfl
def tM (v:Option Value) (C:Eff->Prop):Prop :=
 match v with
 | some v=>kz v=true/\C (val v [])
 | none=>False
@[simp] theorem aaD (v:Value):tM (some v) C=(kz v=true/\C (val v [])):=nr rfl
def AG (v:Value) (i:Nat) (C:Eff->Prop):Prop :=
 match v with
 | .tuple vs=>tM vs[i]? C
 | _=>False
@[simp] theorem aaF (vs:ca) (i:Nat):AG (.tuple vs) i C=tM vs[i]? C:=nr rfl
@[simp ↓] theorem aju (x:Operand) (i:Nat):opX P G V yc ⟨dst,.extract x i,type,pos,after,guard⟩ ts hp nk C=(okX ts hp x/\AG (gev ts x) i C):=nr rfl
def Jm (s:Option Nat) (k off:Nat) (m:Int) (C:Eff->Prop):Prop :=
 match s with
 | some s=>C (val (.pointer (some ⟨k,off+m.toNat*s,none⟩)) [])
 | none=>False
@[simp] theorem alW (s k off:Nat) (m:Int):Jm (some s) k off m C=C (val (.pointer (some ⟨k,off+m.toNat*s,none⟩)) []):=nr rfl
def OQ (P:Program) (v:Value) (len:Nat) (e:TypeId) (m:Int) (C:Eff->Prop):Prop :=
 match v with
 | .pointer (some ⟨k,off,none⟩)=>(0<=m/\m<len)/\Jm (bo P e) k off m C
 | _=>False
@[simp] theorem aoD (k off len:Nat) (e:TypeId) (m:Int):OQ P (.pointer (some ⟨k,off,none⟩)) len e m C=((0<=m/\m<len)/\Jm (bo P e) k off m C):=nr rfl
def OS (P:Program) (v:Value) (e:TypeId) (m:Int) (C:Eff->Prop):Prop :=
 match v with
 | .slice (some ⟨k,off,none⟩) len _=>(0<=m/\m<len)/\Jm (bo P e) k off m C
 | _=>False
@[simp] theorem ajd (k off len cap:Nat) (e:TypeId) (m:Int):OS P (.slice (some ⟨k,off,none⟩) len cap) e m C=((0<=m/\m<len)/\Jm (bo P e) k off m C):=nr rfl
def XD (P:Program) (u:Option TypeDesc) (v:Value) (m:Int) (C:Eff->Prop):Prop :=
 match u with
 | some (.array len e)=>OQ P v len e m C
 | some (.slice e)=>OS P v e m C
 | _=>False
@[simp] theorem alX (len:Nat) (e:TypeId) (v:Value) (m:Int):XD P (some (.array len e)) v m C=OQ P v len e m C:=nr rfl
@[simp] theorem alZ (e:TypeId) (v:Value) (m:Int):XD P (some (.slice e)) v m C=OS P v e m C:=nr rfl
def VF (P:Program) (T:TypeId) (i v:Value) (C:Eff->Prop):Prop :=
 match i with
 | .int _ m=>XD P (P.underlying T) v m C
 | _=>False
@[simp] theorem aoC (T:TypeId) (k:IntKind) (m:Int) (v:Value):VF P T (.int k m) v C=XD P (P.underlying T) v m C:=nr rfl
@[simp ↓] theorem aoX (T:TypeId) (x i:Operand):opX P G V yc ⟨dst,.indexAddr T x i,type,pos,after,guard⟩ ts hp nk C=(okX ts hp x/\okX ts hp i/\VF P T (gev ts i) (gev ts x) C):=nr rfl
def KE (ts:fp) (args:Array Operand):List Value:=args.toList.map (gev ts)
@[simp] theorem aur (l:List Operand):KE ts l.toArray=l.map (gev ts):=by simp [KE]
def wI (P:Program) (e:TypeId) (s:Option Nat) (v:Value) (m:Int) (C:Eff->Prop):Prop :=
 match s with
 | some s=>match v with
  | .agg cs=>unX' (eV P e cs (m.toNat*s)) C
  | _=>False
 | none=>False
where unX' (v:Option Value) (C:Eff->Prop):Prop :=
 match v with
 | some v=>C (val v [])
 | none=>False
@[simp] theorem aoB (e:TypeId) (s:Nat) (cs:ca) (m:Int):wI P e (some s) (.agg cs) m C=wI.unX' (eV P e cs (m.toNat*s)) C:=nr rfl
@[simp] theorem auP (v:Value):wI.unX' (some v) C=C (val v []):=nr rfl
@[congr] theorem aex {v v':Option Value} (h:v=v'):wI.unX' v C=wI.unX' v' C:=fA
@[congr] theorem alV {e:TypeId} {s s':Option Nat} {v v':Value} {m m':Int} (h1:s=s') (h2:v=v') (h3:m=m'):wI P e s v m C=wI P e s' v' m' C:=by rw [h1,h2,h3]
def OP (s:ByteArray) (m:Int) (C:Eff->Prop):Prop :=
 match (if 0<=m then s[m.toNat]? else none) with
 | some b=>C (val (.int .u8 b.toNat) [])
 | none=>False
def Ln (v:Value) (m:Int) (C:Eff->Prop):Prop :=
 match v with
 | .string s=>OP s m C
 | _=>False
@[simp] theorem aoA (s:ByteArray) (m:Int):Ln (.string s) m C=OP s m C:=nr rfl
@[congr] theorem ai8 {v v':Value} {m m':Int} (h1:v=v') (h2:m=m'):Ln v m C=Ln v' m' C:=nG
@[congr] theorem alU {s s':ByteArray} {m m':Int} (h1:s=s') (h2:m=m'):OP s m C=OP s' m' C:=nG
theorem agv {s:ByteArray} {m:Int} {b:UInt8} (h0:0<=m) (h:s[m.toNat]? = some b):OP s m C=C (val (.int .u8 b.toNat) []):=by simp [OP,h0,h]
def TD (P:Program) (u:Option TypeDesc) (v:Value) (m:Int) (C:Eff->Prop):Prop :=
 match u with
 | some (.array len e)=>(0<=m/\m<len)/\wI P e (bo P e) v m C
 | some .string=>Ln v m C
 | _=>False
@[simp] theorem arJ (v:Value) (m:Int):TD P (some .string) v m C=Ln v m C:=nr rfl
@[simp] theorem arI (len:Nat) (e:TypeId) (v:Value) (m:Int):TD P (some (.array len e)) v m C=((0<=m/\m<len)/\wI P e (bo P e) v m C):=nr rfl
@[congr] theorem alT {u u':Option TypeDesc} {v v':Value} {m m':Int} (h1:u=u') (h2:v=v') (h3:m=m'):TD P u v m C=TD P u' v' m' C:=by rw [h1,h2,h3]
def abQ (P:Program) (T:TypeId) (i v:Value) (C:Eff->Prop):Prop :=
 match i with
 | .int _ m=>TD P (P.underlying T) v m C
 | _=>False
@[simp] theorem arH (T:TypeId) (k:IntKind) (m:Int) (v:Value):abQ P T (.int k m) v C=TD P (P.underlying T) v m C:=nr rfl
@[congr] theorem alR {T:TypeId} {i i' v v':Value} (h1:i=i') (h2:v=v'):abQ P T i v C=abQ P T i' v' C:=nG
@[simp ↓] theorem amJ (T:TypeId) (x i:Operand):opX P G V yc ⟨dst,.index T x i,type,pos,after,guard⟩ ts hp nk C=(okX ts hp x/\okX ts hp i/\abQ P T (gev ts i) (gev ts x) C):=by
 simp only [opX,abQ];congr 2;cases gev ts i<;>first|rfl|skip
 unfold TD;simp only
 cases hu:P.underlying T with
 | none=>rfl
 | some u =>
  cases u<;>first|rfl|skip
  ·simp only;unfold wI;cases hg:gev ts x<;>cases hs:bo P _<;>first|rfl|(simp;done)|skip
   all_goals (simp only [wI.unX'];cases eV P _ _ _<;>rfl)
  all_goals (simp only;unfold Ln OP;cases gev ts x<;>rfl)
def afM (P:Program) (f:Option (TypeId×Nat)) (v:Value) (C:Eff->Prop):Prop :=
 match f with
 | some (t,off)=>match v with
  | .agg cs=>wI.unX' (eV P t cs off) C
  | _=>False
 | none=>False
@[congr] theorem akK {f f':Option (TypeId×Nat)} {v v':Value} (h1:f=f') (h2:v=v'):afM P f v C=afM P f' v' C:=nG
@[simp ↓] theorem aoV (T:TypeId) (x:Operand) (f:Nat):opX P G V yc ⟨dst,.field T x f,type,pos,after,guard⟩ ts hp nk C=(okX ts hp x/\afM P (fdX P T f) (gev ts x) C):=by
 simp only [opX,afM];congr 1
def afE (f:Option (TypeId×Nat)) (v:Value) (C:Eff->Prop):Prop :=
 match f with
 | some (_,off)=>match v with
  | .pointer (some ⟨k,o,none⟩)=>C (val (.pointer (some ⟨k,o+off,none⟩)) [])
  | _=>False
 | none=>False
@[simp] theorem an7 (t:TypeId) (off k o:Nat):afE (some (t,off)) (.pointer (some ⟨k,o,none⟩)) C=C (val (.pointer (some ⟨k,o+off,none⟩)) []):=nr rfl
@[congr] theorem akB {f f':Option (TypeId×Nat)} {v v':Value} (h1:f=f') (h2:v=v'):afE f v C=afE f' v' C:=nG
@[simp] theorem aAU (k o:Nat):ncX (.pointer (some ⟨k,o,none⟩)) C=C (val (.pointer (some ⟨k,o,none⟩)) []):=nr rfl
@[congr] theorem aoP {v v':Value} (h:v=v'):ncX v C=ncX v' C:=fA
@[simp ↓] theorem ahe (x:Operand):opX P G V yc ⟨dst,.nilCheck x,type,pos,after,guard⟩ ts hp nk C=(okX ts hp x/\ncX (gev ts x) C):=nr rfl
@[simp ↓] theorem aeB (T:TypeId) (x:Operand) (f:Nat):opX P G V yc ⟨dst,.fieldAddr T x f,type,pos,after,guard⟩ ts hp nk C=(okX ts hp x/\afE (fdX P T f) (gev ts x) C):=nr rfl
def aaZ (ts:fp) (o:Option Operand):Option Value:=o.map (gev ts)
@[simp] theorem aok (x:Operand):aaZ ts (some x)=some (gev ts x):=nr rfl
@[simp] theorem aoj:aaZ ts none=none:=nr rfl
@[simp ↓] theorem aoZ (T:TypeId) (x:Operand) (lo hi mx:Option Operand):opX P G V yc ⟨dst,.slice T x lo hi mx,type,pos,after,guard⟩ ts hp nk C =
 (okX ts hp x/\(∀ y∈lo.toList,okX ts hp y)/\(∀ y∈hi.toList,okX ts hp y)/\mx.isNone=true/\wI.unX' (slX P T (gev ts x) (aaZ ts lo) (aaZ ts hi)) C):=by
 simp only [opX,aaZ];cases slX P T (gev ts x) (lo.map (gev ts)) (hi.map (gev ts))<;>rfl
def slU (P:Program) (u:Option TypeDesc) (v:Value) (lo hi:Option Value):Option Value :=
 match u with
 | some (.array n e)=>match v with
  | .pointer (some ⟨k,off,none⟩)=>match bo P e with
   | some s=>slV (some (k,off)) s n (mf n n lo hi)
   | none=>none
  | _=>none
 | some (.slice e)=>match v with
  | .slice (some ⟨k,off,none⟩) n c=>match bo P e with
   | some s=>slV (some (k,off)) s c (mf n c lo hi)
   | none=>none
  | .slice none n c=>match bo P e with
   | some s=>slV none s c (mf n c lo hi)
   | none=>none
  | _=>none
 | some .string=>match v with
  | .string s=>slS s (mf s.size s.size lo hi)
  | _=>none
 | _=>none
@[simp] theorem ayP (T:TypeId) (v:Value) (lo hi:Option Value):slX P T v lo hi=slU P (P.underlying T) v lo hi:=nr rfl
def slZ (a:Option (Nat×Nat)) (s:Option Nat) (c:Nat) (p:Option (Nat×Nat)):Option Value :=
 match s with
 | some s=>slV a s c p
 | none=>none
@[simp] theorem as6 (a:Option (Nat×Nat)) (s c:Nat) (p:Option (Nat×Nat)):slZ a (some s) c p=slV a s c p:=nr rfl
@[simp] theorem avr (n:Nat) (e:TypeId) (k off:Nat) (lo hi:Option Value):slU P (some (.array n e)) (.pointer (some ⟨k,off,none⟩)) lo hi=slZ (some (k,off)) (bo P e) n (mf n n lo hi):=nr rfl
@[simp] theorem apg (e:TypeId) (k off n c:Nat) (lo hi:Option Value):slU P (some (.slice e)) (.slice (some ⟨k,off,none⟩) n c) lo hi=slZ (some (k,off)) (bo P e) c (mf n c lo hi):=nr rfl
@[simp] theorem as5 (k off s c l h:Nat):slV (some (k,off)) s c (some (l,h))=some (.slice (some ⟨k,if c=l then off else off+l*s,none⟩) (h - l) (c - l)):=nr rfl
@[simp] theorem aqR (len cap:Nat) (k:IntKind) (m:Int):hiG len cap (some (.int k m))=if 0<=m/\m<=cap then some m.toNat else none:=nr rfl
@[simp] theorem ar8 (h:Nat):loG h none=some 0:=nr rfl
def adF (lo:Option Value) (h:Option Nat):Option (Nat×Nat) :=
 match h with
 | none=>none
 | some h=>(loG h lo).map λl=>(l,h)
@[simp] theorem aph (len cap:Nat) (lo hi:Option Value):mf len cap lo hi=adF lo (hiG len cap hi):=nr rfl
@[simp] theorem ajH (lo:Option Value) (h:Nat):adF lo (some h)=(loG h lo).map λl=>(l,h):=nr rfl
@[simp ↓] theorem au6 (T:TypeId) (x:Operand):opX P G V yc ⟨dst,.sliceToArrayPointer T x,type,pos,after,guard⟩ ts hp nk C=(okX ts hp x/\wI.unX' (WZ P T (gev ts x)) C):=by
 simp only [opX];cases WZ P T (gev ts x)<;>rfl
def apE (u:Option TypeDesc) (v:Value):Option Value :=
 match u with
 | some (.array n _)=>match v with
  | .slice a len _=>if n<=len then some (.pointer a) else none
  | _=>none
 | _=>none
@[simp] theorem atW (T:TypeId) (v:Value):WZ P T v=apE (P.underlying T) v:=nr rfl
@[simp] theorem apF (n:Nat) (e:TypeId) (a:qE) (len c:Nat):apE (some (.array n e)) (.slice a len c)=if n<=len then some (.pointer a) else none:=nr rfl
def ar5 (u:Option TypeDesc) (v:Value):Option Value :=
 match u with
 | some .string=>match v with
  | .string s=>some (.int .i64 s.size)
  | _=>none
 | some (.array n _)=>some (.int .i64 n)
 | some (.slice _)=>match v with
  | .slice _ n _=>some (.int .i64 n)
  | _=>none
 | _=>none
@[simp] theorem auU (T:TypeId) (v:Value):XI P T v=ar5 (P.underlying T) v:=nr rfl
@[simp] theorem ami (e:TypeId) (a:qE) (n c:Nat):ar5 (some (.slice e)) (.slice a n c)=some (.int .i64 n):=nr rfl
@[simp ↓] theorem au9 (x:Operand) (T:TypeId):opX P G V yc ⟨dst,.call ⟨.builtin .len,#[x],#[T]⟩,type,pos,after,guard⟩ ts hp nk C=(okX ts hp x/\wI.unX' (XI P T (gev ts x)) C):=by
 simp only [opX,KZ,BN];simp;intro _;cases XI P T (gev ts x)<;>rfl
@[simp] theorem auY (k k':IntKind) (a c:Int):Jy true (.int k a) (.int k' c)=some (.int k (if a<c then c else a)):=nr rfl
@[simp] theorem auX (k k':IntKind) (a c:Int):Jy false (.int k a) (.int k' c)=some (.int k (if c<a then c else a)):=nr rfl
def asf (b:Bool) (z:Option Value) (l:List Value):Option Value :=
 match z with
 | some z=>An b z l
 | none=>none
@[simp] theorem aoN (b:Bool) (z:Value) (l:List Value):asf b (some z) l=An b z l:=nr rfl
@[simp] theorem ase (b:Bool) (k:IntKind) (a:Int):An b (.int k a) []=some (.int k a):=nr rfl
@[simp] theorem aoL (b:Bool) (x y:Value) (l:List Value):An b x (y::l)=asf b (Jy b x y) l:=nr rfl
@[simp] theorem aoM (b:Bool) (x:Value) (l:List Value):Jz b (x::l)=An b x l:=nr rfl
@[simp ↓] theorem ava (l:List Operand) (T:Array TypeId):opX P G V yc ⟨dst,.call ⟨.builtin .max,l.toArray,T⟩,type,pos,after,guard⟩ ts hp nk C=((∀ x∈l,okX ts hp x)/\wI.unX' (Jz true (KE ts l.toArray)) C):=by
 simp only [opX,KZ,BN,KE];cases Jz true (l.map (gev ts))<;>rfl
@[simp ↓] theorem avb (l:List Operand) (T:Array TypeId):opX P G V yc ⟨dst,.call ⟨.builtin .min,l.toArray,T⟩,type,pos,after,guard⟩ ts hp nk C=((∀ x∈l,okX ts hp x)/\wI.unX' (Jz false (KE ts l.toArray)) C):=by
 simp only [opX,KZ,BN,KE];cases Jz false (l.map (gev ts))<;>rfl
def pnX (v:Value) (C:Eff->Prop):Prop :=
 match v with
 | .iface T u=>C ⟨fP,[],[],[],some (.iface T u),false⟩
 | _=>False
@[simp ↓] theorem aoY (x:Operand):opX P G V yc ⟨dst,.panic x,type,pos,after,guard⟩ ts hp nk C=(okX ts hp x/\bp (gev ts x)=true/\pnX (gev ts x) C):=nr rfl
@[simp] theorem ao5 (T:TypeId) (u:Value):pnX (.iface T u) C=C ⟨fP,[],[],[],some (.iface T u),false⟩:=nr rfl
@[congr] theorem ao4 {v v':Value} (h:v=v'):pnX v C=pnX v' C:=fA
@[simp] theorem asI (v:Value):(Out.ret v).eff=val v []:=nr rfl
@[simp] theorem asH (v:Value):(Out.pan v).eff=⟨fP,[],[],[],some v,false⟩:=nr rfl
@[simp ↓] theorem ahd (fn:Fn) (first cap:Array Operand):opX P G V yc ⟨dst,.makeFunc fn first cap,type,pos,after,guard⟩ ts hp nk C =
 ((∀ x∈first.toList,okX ts hp x/\eh (gev ts x)=true)/\(∀ x∈cap.toList,okX ts hp x/\eh (gev ts x)=true)/\C (val (.func fn (first.map (gev ts)) (cap.map (gev ts))) [])):=nr rfl
def SO (P:Program) (v:Option Value) (o:Oper) (ts:fp) (hp:Hp) (C:Eff->Prop):Prop :=
 match v with
 | some v=>C (val v [])
 | none=>LF P o ts hp λv=>C (val v [])
@[simp] theorem anR (v:Value) (o:Oper):SO P (some v) o ts hp C=C (val v []):=nr rfl
@[simp ↓] theorem au7 (op:BinOp) (T yT:TypeId) (x y:Operand):opX P G V yc ⟨dst,.binOp op T x y yT,type,pos,after,guard⟩ ts hp nk C =
 (okX ts hp x/\okX ts hp y/\SO P (zq P op T (gev ts x) (gev ts y)) ⟨dst,.binOp op T x y yT,type,pos,after,guard⟩ ts hp C):=nr rfl
def unX (v:Option Value) (C:Eff->Prop):Prop :=
 match v with
 | some v=>C (val v [])
 | none=>False
@[simp] theorem atp (v:Value):unX (some v) C=C (val v []):=nr rfl
@[simp ↓] theorem ayr (op:UnOp) (T:TypeId) (x:Operand):opX P G V yc ⟨dst,.unOp op T x,type,pos,after,guard⟩ ts hp nk C=(okX ts hp x/\unX (un1 op (gev ts x)) C):=nr rfl
@[simp ↓] theorem asz (S T:TypeId) (x:Operand):opX P G V yc ⟨dst,.convert S T x,type,pos,after,guard⟩ ts hp nk C=(okX ts hp x/\SO P (AD P S T (gev ts x)) ⟨dst,.convert S T x,type,pos,after,guard⟩ ts hp C):=nr rfl
@[simp] theorem au4 (t:Tmp):okT ts (.tmp t)=nj (ts t):=nr rfl
@[simp] theorem asw (f:FuncId):okT ts (.func f)=True:=nr rfl
def zU (b:Bool) (x y:Prop):Prop :=
 match b with
 | true=>x
 | false=>y
@[simp] theorem T8 (x y:Prop):zU true x y=x:=nr rfl
@[simp] theorem ajz (x y:Prop):zU false x y=y:=nr rfl
@[congr] theorem ajy {b b':Bool} {x y:Prop} (h:b=b'):zU b x y=zU b' x y:=fA
def CI (l:List Value):Array Value:=l.toArray
@[simp] theorem apD (l:List Value):CI l=l.toArray:=nr rfl
def z5 (P:Program) (G:Hp) (V:XV) (nk yc:Nat) (ts:fp) (hp:Hp) (v:Value) (args:Array Operand) (C:Eff->Prop):Prop:=yY P G V nk yc ts hp v args C
@[congr] theorem afd {v v':Value} {args:Array Operand} (h:v=v'):z5 P G V nk yc ts hp v args C=z5 P G V nk yc ts hp v' args C:=fA
def IP (P:Program) (G:Hp) (V:XV) (nk:Nat) (hp:Hp) (g:FuncId) (l:List Value) (cap:List Value) (C:Eff->Prop):Prop :=
 zU (cap.isEmpty&&!V.pn.contains g&&l.all bp) (zU (V.pn.contains (g+1000000)) (IM P G g (CI l) C) (bl P G g (CI l) (Va C))) (cap.all eh=true/\qO P G g (CI (l++cap)) hp nk C)
@[congr] theorem aff {g:FuncId} {l l' cap cM:List Value} (h:l=l') (h':cap=cM):IP P G V nk hp g l cap C=IP P G V nk hp g l' cM C:=by rw [h,h']
@[simp] theorem anV (g:FuncId) (l cap:List Value):IP P G V nk hp g l cap C=zU (cap.isEmpty&&!V.pn.contains g&&l.all bp) (zU (V.pn.contains (g+1000000)) (IM P G g (CI l) C) (bl P G g (CI l) (Va C))) (cap.all eh=true/\qO P G g (CI (l++cap)) hp nk C):=nr rfl
@[simp] theorem ail (g:FuncId) (args:List Operand) (oq:List Value):z5 P G V nk yc ts hp (.func (.func g) #[] oq.toArray) args.toArray C=((∀ x∈args,okX ts hp x)/\IP P G V nk hp g (KE ts args.toArray) oq C):=by
 have e:(Array.map (gev ts) args.toArray)=(args.map (gev ts)).toArray:=zS;have ea:((args.map (gev ts)).toArray++oq.toArray)=(args.map (gev ts)++oq).toArray:=zS;unfold z5 yY IP Va KE CI;simp only [e,ea,rR,j6,true_and];congr 1;by_cases h:oq=[]/\V.pn.contains g=false/\(args.map (gev ts)).all bp=true
 ·obtain ⟨h1,h2,h3⟩:=h;subst h1;have h4:(args.map (gev ts)).toArray.all bp=true:=by simpa using h3
  rw [ag ⟨rfl,h2,h4⟩];simp only [List.isEmpty_nil,h2,h3,j7,Bool.and_self,T8];cases V.pn.contains (g+1000000)<;>simp [zU]
 ·rw [ae (by
   rintro ⟨h1,h2,h3⟩;exact h ⟨List.eq_nil_of_length_eq_zero h1,h2,by simpa using h3⟩)]
  have hb:(oq.isEmpty&&!V.pn.contains g&&(args.map (gev ts)).all bp)=false:=by
   cases hb:(oq.isEmpty&&!V.pn.contains g&&(args.map (gev ts)).all bp) with
   | false=>rfl
   | true =>
    simp only [bn,List.isEmpty_iff,oY] at hb;exact absurd ⟨hb.1.1,hb.1.2,hb.2⟩ h
  simp only [hb,zU];simp
def yV (Y:Option YG) (yc l:Nat) (hp:Hp) (args:List Value) (C:Eff->Prop):Prop:=Cp Y yc l hp args.toArray C
theorem ZG {y:YG} (h:y.sh=none) (l:List Value):l.toArray.map y.act=l.toArray:=by
 have:y.act=id:=by funext v;unfold YG.act;rw [h];rfl
 rw [this];simp
@[simp] theorem ajU (l':Nat) (xs:List (Array Value)) (st l:Nat) (args:List Value):yV (some ⟨l',xs,st,none,none⟩) yc l hp args C=(l=l'/\yc<=st/\(∀ v∈args,bp v=true)/\xs[yc]? = some args.toArray/\C ⟨.bool (yc != st),[],[],[],none,true⟩):=by
 have:(YG.mk l' xs st none none).pan yc=none:=by unfold YG.pan;split<;>rfl
 simp only [yV,Cp,Bv,this,ZG,YG.arg,YG.lies,true_and]
def shX (hp:Hp) (s:Sh) (xs:Option (Array Value)) (yc st:Nat) (args:List Value) (C:Eff->Prop):Prop :=
 (∀ v∈args,zG s.w v=true)/\xs=some (args.toArray.map (ren λ_=>s.a))/\(hp s.w=some (s.ob yc)/\100<=s.w)/\C ⟨.bool (yc != st),[s.w],[(s.w,s.ob (yc+1))],[],none,true⟩
@[simp] theorem aps (l':Nat) (xs:List (Array Value)) (st l:Nat) (s:Sh) (args:List Value):yV (some ⟨l',xs,st,none,some s⟩) yc l hp args C=(l=l'/\yc<=st/\shX hp s xs[yc]? yc st args C):=by
 have:(YG.mk l' xs st none (some s)).pan yc=none:=by unfold YG.pan;split<;>rfl
 have e:(YG.mk l' xs st none (some s)).act=ren λ_=>s.a:=by funext v;rfl
 simp only [yV,Cp,Bv,this,YG.arg,YG.lies,e,shX,and_true]
def anJ (b:Bool) (pv:Value):Eff:=if b then ⟨fP,[],[],[],some pv,true⟩ else ⟨.bool true,[],[],[],none,true⟩
def yC (C:Eff->Prop) (b:Bool) (pv:Value):Prop:=C (anJ b pv)
@[congr] theorem atO {b b':Bool} {pv:Value} (h:b=b'):yC C b pv=yC C b' pv:=fA
@[congr] theorem aib {Y Y':Option YG} {Bw l:Nat} {args gz:List Value} (h0:Y=Y') (h1:yc=Bw) (h:args=gz):yV Y yc l hp args C=yV Y' Bw l hp gz C:=by rw [h0,h1,h]
@[simp] theorem afe (l:Nat) (args:List Operand):z5 P G V nk yc ts hp (.func (.yield l) #[] #[]) args.toArray C=((∀ x∈args,okT ts x)/\yV V.Y yc l hp (KE ts args.toArray) C):=by
 have e:(Array.map (gev ts) args.toArray)=(args.map (gev ts)).toArray:=zS;unfold z5 yY yV KE;simp only [e,rR,j6,true_and]
@[simp ↓] theorem asy (f:Operand) (args:Array Operand) (argTypes:Array TypeId):opX P G V yc ⟨dst,.call ⟨.value f,args,argTypes⟩,type,pos,after,guard⟩ ts hp nk C=(okT ts f/\z5 P G V nk yc ts hp (gev ts f) args C):=nr rfl
@[congr] theorem aik {f f':FuncId} {args gz:ca} (hf:f=f') (h:args=gz):IM P G f args C=IM P G f' gz C:=by rw [hf,h]
@[congr] theorem aij {f f':FuncId} {args gz:ca} {K:fQ} (hf:f=f') (h:args=gz):bl P G f args K=bl P G f' gz K:=by rw [hf,h]
@[simp ↓] theorem aoW (T:TypeId) (x:Operand):opX P G V yc ⟨dst,.makeInterface T x,type,pos,after,guard⟩ ts hp nk C=(okX ts hp x/\eh (gev ts x)=true/\abT (P.underlying T) T (gev ts x) C):=nr rfl
def bsX (o:Option (Array Value)) (e:TypeId) (len nk:Nat) (C:Eff->Prop):Prop :=
 match o with
 | some cs=>C ⟨.slice (some ⟨nk,0,none⟩) len len,[],[],[(nk,⟨cs,e⟩)],none,false⟩
 | none=>False
@[simp] theorem apP (cs:ca) (e:TypeId) (len:Nat):bsX (some cs) e len nk C=C ⟨.slice (some ⟨nk,0,none⟩) len len,[],[],[(nk,⟨cs,e⟩)],none,false⟩:=nr rfl
def buX (pl:Option (List (Nat×Nat) ⊕ Nat)) (z:Value) (parts:List (Nat×Value)) (C:Eff->Prop):Prop :=
 match pl with
 | some pl=>unX ((pd pl z.cells parts).map .agg) C
 | none=>False
@[simp] theorem ZV (pl:List (Nat×Nat) ⊕ Nat) (z:Value) (parts:List (Nat×Value)):buX (some pl) z parts C=unX ((pd pl z.cells parts).map .agg) C:=nr rfl
def IG (P:Program) (T:TypeId) (z:Option Value) (parts:List (Nat×Value)) (C:Eff->Prop):Prop :=
 match z with
 | some z=>cI z=true/\bp z=true/\buX (dw P T) z parts C
 | none=>False
@[simp] theorem aii (T:TypeId) (z:Value) (parts:List (Nat×Value)):IG P T (some z) parts C=(cI z=true/\bp z=true/\buX (dw P T) z parts C):=nr rfl
@[simp ↓] theorem aoT (T:TypeId) (parts:Array (Nat×Operand)):opX P G V yc ⟨dst,.build T parts,type,pos,after,guard⟩ ts hp nk C =
  ((∀ p∈parts.toList,okX ts hp p.2/\cI (gev ts p.2)=true)/\IG P T (dm P T) (mc ts parts) C):=by
 unfold opX IG;simp only
 cases hz:dm P T with
 | none=>rfl
 | some z =>
  simp only
  cases hp:dw P T with
  | none=>rfl
  | some pl =>
   simp only [ZV];cases hf:pd pl z.cells (mc ts parts)<;>rfl
@[simp] theorem ao3 (parts:Array (Nat×Operand)):mc ts parts=parts.toList.map λp=>(p.1,gev ts p.2):=nr rfl
@[simp] theorem asN (m i:Nat):Ni (.inr m) i=some (i*m,m):=nr rfl
@[simp] theorem asM (l:List (Nat×Nat)) (i:Nat):Ni (.inl l) i=l[i]?:=nr rfl
@[simp] theorem an8 (pl:List (Nat×Nat) ⊕ Nat) (cells:ca):pd pl cells []=some cells:=nr rfl
def ait (pl:List (Nat×Nat) ⊕ Nat) (cells:ca) (os:Option (Nat×Nat)) (v:Value) (rest:List (Nat×Value)):Option (Array Value) :=
 match os with
 | none=>none
 | some (off,size)=>if v.cells.size=size/\off+v.cells.size<=cells.size then pd pl (gv cells off v.cells.toList) rest else none
@[simp] theorem akD (pl:List (Nat×Nat) ⊕ Nat) (cells:ca) (off size:Nat) (v:Value) (rest:List (Nat×Value)):ait pl cells (some (off,size)) v rest=if v.cells.size=size/\off+v.cells.size<=cells.size then pd pl (gv cells off v.cells.toList) rest else none:=nr rfl
@[simp] theorem akC (pl:List (Nat×Nat) ⊕ Nat) (cells:ca) (i:Nat) (v:Value) (rest:List (Nat×Value)):pd pl cells ((i,v)::rest)=ait pl cells (Ni pl i) v rest:=nr rfl

@[congr] theorem amj {base:Nat} {Q:QQ} {seen:List (Option Tmp)} {k k':Nat} {l:og} {ov:fp} {eG:Hp} {tr tr':Tr} {Bw:Nat} {wr wr' yd yd':Bool} (h1:k=k') (h2:ts=ov) (h3:hp=eG) (h4:tr=tr') (h5:yc=Bw) (h6:wr=wr') (h7:yd=yd') :
  mz P G V base Q seen k l ts hp tr yc wr yd=mz P G V base Q seen k' l ov eG tr' Bw wr' yd':=by rw [h1,h2,h3,h4,h5,h6,h7]
@[congr] theorem aeH {seen:List (Option Tmp)} {k k':Nat} {o:Oper} (h1:k=k'):oT seen k o ts=oT seen k' o ts:=by rw [h1]
@[congr] theorem aoU {o:Oper} {ov:fp} {eG:Hp} {Cc:Nat} (h2:ts=ov) (h3:hp=eG) (h4:nk=Cc):opX P G V yc o ts hp nk C=opX P G V yc o ov eG Cc C:=by rw [h2,h3,h4]
@[congr] theorem anx {w w':Option Bool} {a b:Prop} (h:w=w'):YR w a b=YR w' a b:=fA
@[congr] theorem ajA {v v':Value} {x y:Operand} (h:v=v'):Wa ts hp v x y C=Wa ts hp v' x y C:=fA
@[congr] theorem ae3 {z z':Option Value} {Cc:Nat} {T:TypeId} (h:z=z') (h1:nk=Cc):Mk z nk T C=Mk z' Cc T C:=lJ
@[congr] theorem agI {v v':Option Value} {k k':Nat} (h:v=v') (h1:k=k'):Jx v k C=Jx v' k' C:=lJ
@[congr] theorem agH {T:TypeId} {b b':Option Blk} {k off k' Bd:Nat} (h:b=b') (h1:k=k') (h2:off=Bd):Jw P T b k off C=Jw P T b' k' Bd C:=by rw [h,h1,h2]
@[congr] theorem aji {T:TypeId} {v v':Value} (h:v=v'):VO P T hp v C=VO P T hp v' C:=fA
@[congr] theorem aeE {T:TypeId} {b b':Option Blk} {k off k' Bd:Nat} {w w':Value} (h:b=b') (h1:k=k') (h2:off=Bd) (h3:w=w'):Bp P T b k off w C=Bp P T b' k' Bd w' C:=by rw [h,h1,h2,h3]
@[congr] theorem ahN {T:TypeId} {v v' w w':Value} (h:v=v') (h1:w=w'):Nr P T hp v w C=Nr P T hp v' w' C:=lJ
@[congr] theorem Y5 {v v':Option Value} (h:v=v'):tM v C=tM v' C:=fA
@[congr] theorem aaE {v v':Value} {i:Nat} (h:v=v'):AG v i C=AG v' i C:=fA
@[congr] theorem aja {s s':Option Nat} {k k' off Bd:Nat} {m m':Int} (h:s=s') (h1:k=k') (h2:off=Bd) (h3:m=m'):Jm s k off m C=Jm s' k' Bd m' C:=by rw [h,h1,h2,h3]
@[congr] theorem ajb {v v':Value} {len:Nat} {e:TypeId} {m m':Int} (h:v=v') (h1:m=m'):OQ P v len e m C=OQ P v' len e m' C:=lJ
@[congr] theorem ajc {v v':Value} {e:TypeId} {m m':Int} (h:v=v') (h1:m=m'):OS P v e m C=OS P v' e m' C:=lJ
@[congr] theorem alY {u u':Option TypeDesc} {v v':Value} {m m':Int} (h0:u=u') (h:v=v') (h1:m=m'):XD P u v m C=XD P u' v' m' C:=by rw [h,h1,h0]
@[congr] theorem ai9 {T:TypeId} {i i' v v':Value} (h:i=i') (h1:v=v'):VF P T i v C=VF P T i' v' C:=lJ
@[congr] theorem aj8 {o:Oper} {v v':Option Value} (h:v=v'):SO P v o ts hp C=SO P v' o ts hp C:=fA
@[congr] theorem apq {v v':Option Value} (h:v=v'):unX v C=unX v' C:=fA
@[congr] theorem aiK {f:FuncId} {args gz:ca} (h:args=gz):qO P G f args hp nk C=qO P G f gz hp nk C:=fA
@[congr] theorem anS {o o':Option (Array Value)} {e:TypeId} {len Cc:Nat} (h:o=o') (h1:nk=Cc):bsX o e len nk C=bsX o' e len Cc C:=lJ
@[congr] theorem anT {pl pl':Option (List (Nat×Nat) ⊕ Nat)} {z z':Value} {parts JL:List (Nat×Value)} (h:pl=pl') (h1:z=z') (h2:parts=JL):buX pl z parts C=buX pl' z' JL C:=by rw [h,h1,h2]
@[congr] theorem afb {T:TypeId} {z z':Option Value} {parts JL:List (Nat×Value)} (h1:z=z') (h2:parts=JL):IG P T z parts C=IG P T z' JL C:=nG

@[simp] theorem apH (op:BinOp) (T:TypeId) (k k':IntKind) (a b:Int):zq P op T (.int k a) (.int k' b)=uI op k a k' b:=nr rfl
@[simp] theorem aea (T:TypeId) (a b:Bool):zq P .eql T (.bool a) (.bool b)=if CK P T then some (.bool (a==b)) else none:=nr rfl
@[simp] theorem aeb (T:TypeId) (a b:Bool):zq P .neq T (.bool a) (.bool b)=if CK P T then some (.bool (a != b)) else none:=nr rfl
def NY (r:Option Bool) (neg:Bool):Option Value :=
 match r with
 | some r=>some (.bool (if neg then !r else r))
 | none=>none
@[simp] theorem atX (r:Bool):NY (some r) false=some (.bool r):=nr rfl
@[simp] theorem atY (r:Bool):NY (some r) true=some (.bool !r):=nr rfl
@[simp] theorem ae6 (T:TypeId) (a b:ca):zq P .eql T (.agg a) (.agg b)=NY (Mj P T a b) false:=C8
@[simp] theorem ae7 (T:TypeId) (a b:ca):zq P .neq T (.agg a) (.agg b)=NY (Mj P T a b) true:=C8
@[simp] theorem atU (T:TypeId) (xs ys:ca):Mj P T xs ys=KW P T (BM P T) (r6 P T) xs ys:=nr rfl
def aif (n:Option Nat) (xs ys:ca):Option Bool :=
 match n with
 | some n=>if xs.size=n/\ys.size=n then HN xs.toList ys.toList else none
 | none=>none
@[simp] theorem atV (T:TypeId) (xs ys:ca):HK P T xs ys=aif (BM P T) xs ys:=nr rfl
@[simp] theorem aj6 (n:Nat) (xs ys:ca):aif (some n) xs ys=if xs.size=n/\ys.size=n then HN xs.toList ys.toList else none:=nr rfl
@[simp] theorem aj2 (T:TypeId) (n:Nat) (st:Option (List (TypeId×Nat))) (xs ys:ca):KW P T (some n) st xs ys=HK P T xs ys:=nr rfl
@[simp] theorem apA (T:TypeId) (l:List (TypeId×Nat)) (xs ys:ca):KW P T none (some l) xs ys=if (xs.all bU&&ys.all bU)=true then My P xs ys l else none:=nr rfl
def akw (a b:Option Bool):Option Bool :=
 match a,b with
 | some a,some b=>some (a&&b)
 | _,_=>none
@[simp] theorem an4 (a b:Bool):akw (some a) (some b)=some (a&&b):=nr rfl
@[simp] theorem ap8 (xs ys:ca):My P xs ys []=some true:=nr rfl
@[simp] theorem an5 (T off:Nat) (fs:List (TypeId×Nat)) (xs ys:ca):My P xs ys ((T,off)::fs)=akw (aaQ P T off xs ys) (My P xs ys fs):=nr rfl
def akJ (P:Program) (T off:Nat) (n:Option Nat) (xs ys:ca):Option Bool :=
 match n with
 | some n=>if off+n<=xs.size/\off+n<=ys.size then HK P T (xs.extract off (off+n)) (ys.extract off (off+n)) else none
 | none=>if OW P T=true then match xs[off]?,ys[off]? with
   | some (.int k a),some (.int k' b)=>if k=k' then some (a==b) else none
   | _,_=>none
  else aaR P (snF P T) off xs ys
@[simp] theorem aog (l:List (TypeId×Nat)) (m off:Nat) (xs ys:ca):aaR P (some (l,m)) off xs ys=if off+m<=xs.size/\off+m<=ys.size then KD P (xs.extract off (off+m)) (ys.extract off (off+m)) l else none:=nr rfl
@[simp] theorem ap7 (xs ys:ca):KD P xs ys []=some true:=nr rfl
@[simp] theorem an3 (T off:Nat) (fs:List (TypeId×Nat)) (xs ys:ca):KD P xs ys ((T,off)::fs)=akw (aaP P T off xs ys) (KD P xs ys fs):=nr rfl
def aiw (P:Program) (T off:Nat) (n:Option Nat) (xs ys:ca):Option Bool :=
 match n with
 | some n=>if off+n<=xs.size/\off+n<=ys.size then HK P T (xs.extract off (off+n)) (ys.extract off (off+n)) else none
 | none=>if OW P T=true then match xs[off]?,ys[off]? with
   | some (.int k a),some (.int k' b)=>if k=k' then some (a==b) else none
   | _,_=>none
  else none
@[simp] theorem auo (T off:Nat) (xs ys:ca):aaP P T off xs ys=aiw P T off (ID P T) xs ys:=nr rfl
@[simp] theorem akI (T off n:Nat) (xs ys:ca):aiw P T off (some n) xs ys=if off+n<=xs.size/\off+n<=ys.size then HK P T (xs.extract off (off+n)) (ys.extract off (off+n)) else none:=nr rfl
@[simp] theorem aup (T off:Nat) (xs ys:ca):aaQ P T off xs ys=akJ P T off (ID P T) xs ys:=nr rfl
@[simp] theorem aoi (T off n:Nat) (xs ys:ca):akJ P T off (some n) xs ys=if off+n<=xs.size/\off+n<=ys.size then HK P T (xs.extract off (off+n)) (ys.extract off (off+n)) else none:=nr rfl
def ar0 (a b:Option Value):Option Bool :=
 match a,b with
 | some (.int k a),some (.int k' b)=>if k=k' then some (a==b) else none
 | _,_=>none
@[simp] theorem aoE (k k':IntKind) (a b:Int):ar0 (some (.int k a)) (some (.int k' b))=if k=k' then some (a==b) else none:=nr rfl
@[simp] theorem aoh (T off:Nat) (xs ys:ca):akJ P T off none xs ys=if OW P T=true then ar0 xs[off]? ys[off]? else aaR P (snF P T) off xs ys:=nr rfl
@[simp] theorem ap9:HN [] []=some true:=nr rfl
def apC (b:Bool) (r:Option Bool):Option Bool :=
 match r with
 | some r=>some (b&&r)
 | none=>none
@[simp] theorem anP (b r:Bool):apC b (some r)=some (b&&r):=nr rfl
@[simp] theorem an6 (k k':IntKind) (a b:Int) (xs ys:List Value):HN (.int k a::xs) (.int k' b::ys)=if k=k' then apC (a==b) (HN xs ys) else none:=nr rfl
@[simp] theorem arM (k k':IntKind) (a b:Int):uI .add k a k' b=if k=k' then some (.int k (k.wrap (a+b))) else none:=nr rfl
@[simp] theorem arZ (k k':IntKind) (a b:Int):uI .sub k a k' b=if k=k' then some (.int k (k.wrap (a - b))) else none:=nr rfl
@[simp] theorem arT (k k':IntKind) (a b:Int):uI .mul k a k' b=if k=k' then some (.int k (k.wrap (a*b))) else none:=nr rfl
@[simp] theorem arV (k k':IntKind) (a b:Int):uI .quo k a k' b=if k=k' then if b=0 then none else some (.int k (k.wrap (a.tdiv b))) else none:=nr rfl
@[simp] theorem arW (k k':IntKind) (a b:Int):uI .rem k a k' b=if k=k' then if b=0 then none else some (.int k (a.tmod b)) else none:=nr rfl
@[simp] theorem arX (k k':IntKind) (a b:Int):uI .shl k a k' b=if 0<=b then some (.int k (k.wrap (a*2^min b.toNat k.bits))) else none:=nr rfl
@[simp] theorem arY (k k':IntKind) (a b:Int):uI .shr k a k' b=if 0<=b then some (.int k (a.fdiv (2^min b.toNat k.bits))) else none:=nr rfl
@[simp] theorem arN (k k':IntKind) (a b:Int):uI .and k a k' b=if k=k' then some (.int k (jS .and k a b)) else none:=nr rfl
@[simp] theorem auQ (k k':IntKind) (a b:Int):uI .or k a k' b=if k=k' then some (.int k (jS .or k a b)) else none:=nr rfl
@[simp] theorem arO (k k':IntKind) (a b:Int):uI .eql k a k' b=if k=k' then some (.bool (a==b)) else none:=nr rfl
@[simp] theorem arU (k k':IntKind) (a b:Int):uI .neq k a k' b=if k=k' then some (.bool (a != b)) else none:=nr rfl
@[simp] theorem arS (k k':IntKind) (a b:Int):uI .lss k a k' b=if k=k' then some (.bool (a<b)) else none:=nr rfl
@[simp] theorem arR (k k':IntKind) (a b:Int):uI .leq k a k' b=if k=k' then some (.bool (a<=b)) else none:=nr rfl
@[simp] theorem arQ (k k':IntKind) (a b:Int):uI .gtr k a k' b=if k=k' then some (.bool (b<a)) else none:=nr rfl
@[simp] theorem arP (k k':IntKind) (a b:Int):uI .geq k a k' b=if k=k' then some (.bool (b<=a)) else none:=nr rfl
@[simp] theorem avC (k:IntKind) (a:Int):un1 .neg (.int k a)=some (.int k (k.wrap (0 - a))):=nr rfl
@[simp] theorem avD (b:Bool):un1 .not (.bool b)=some (.bool !b):=nr rfl
@[simp] theorem avE (k:IntKind) (a:Int):un1 .xor (.int k a)=some (.int k (jS .xor k (if k.signed then -1 else k.max) a)):=nr rfl
def Z6 (s t:Option TypeDesc) (n:Int):Option Value :=
 match s,t with
 | some _,some (.int k)=>some (.int k (k.wrap n))
 | _,_=>none
@[simp] theorem an2 (s:TypeDesc) (k:IntKind) (n:Int):Z6 (some s) (some (.int k)) n=some (.int k (k.wrap n)):=nr rfl
@[simp] theorem an1 (S T:TypeId) (k:IntKind) (n:Int):AD P S T (.int k n)=Z6 (P.underlying S) (P.underlying T) n:=by
 unfold AD Z6
 cases hs:P.underlying S with
 | none=>rfl
 | some s =>
  cases ht:P.underlying T with
  | none=>rfl
  | some d=>cases d<;>rfl

@[simp] theorem aoF (l:og) (ts:fp) (t:Nat):r4 l ts t=if l.any (λo=>o.dst==some t) then fP else ts t:=nr rfl
def KP (v:Value):Option Value:=if kz v then some v else none
def ahx (v:Option Value):Option Value :=
 match v with
 | some v=>KP v
 | none=>none
@[simp] theorem apb (v:Value):ahx (some v)=KP v:=nr rfl
@[simp] theorem ao8 (t:Tmp):Bi P ts hp (.tmp t)=KP (ts t):=nr rfl
def We (P:Program) (T:TypeId) (b:Option Blk) (off:Nat):Option Value :=
 match b with
 | some b=>ahx (fB P T b off)
 | none=>none
@[simp] theorem am5 (T:TypeId) (b:Blk) (off:Nat):We P T (some b) off=ahx (fB P T b off):=nr rfl
def am4 (P:Program) (T:TypeId) (hp:Hp) (v:Value):Option Value :=
 match v with
 | .pointer (some ⟨k,off,none⟩)=>We P T (hp k) off
 | _=>none
@[simp] theorem asX (T:TypeId) (k off:Nat):am4 P T hp (.pointer (some ⟨k,off,none⟩))=We P T (hp k) off:=nr rfl
@[simp] theorem am6 (t:Tmp) (T:TypeId):Bi P ts hp (.cell t T)=am4 P T hp (ts t):=by
 unfold Bi am4;simp only;split
 ·unfold We;split
  ·unfold ahx KP;split<;>simp_all
  ·simp_all
 ·simp_all
@[simp] theorem apc (b:Bool):KP (.bool b)=some (.bool b):=nr rfl
@[simp] theorem as0 (k:IntKind) (n:Int):KP (.int k n)=some (.int k n):=nr rfl
@[simp] theorem asZ (cs:ca):KP (.agg cs)=some (.agg cs):=nr rfl
@[simp] theorem apd (f:Fn) (a b:ca):KP (.func f a b)=some (.func f a b):=nr rfl
@[simp] theorem am9 (a:qE) (n c:Nat):KP (.slice a n c)=some (.slice a n c):=nr rfl
@[simp] theorem ajD (s:ByteArray):KP (.string s)=some (.string s):=nr rfl
def asY (v:Option Value) (r:Option (List Value)):Option (List Value) :=
 match v,r with
 | some v,some vs=>some (v::vs)
 | _,_=>none
@[simp] theorem apa (v:Value) (vs:List Value):asY (some v) (some vs)=some (v::vs):=nr rfl
@[simp] theorem ao9:vg P ts hp []=some []:=nr rfl
@[simp] theorem am7 (x:ResultVar) (l:List ResultVar):vg P ts hp (x::l)=asY (Bi P ts hp x) (vg P ts hp l):=by
 simp only [vg]
 cases h1:Bi P ts hp x with
 | none=>rfl
 | some v=>cases h2:vg P ts hp l<;>rfl
def Wf (l:Option (List Value)):Option Value :=
 match l with
 | some [v]=>some v
 | some vs=>some (.tuple vs.toArray)
 | none=>none
@[simp] theorem avo (v:Value):Wf (some [v])=some v:=nr rfl
@[simp] theorem avp (v u:Value) (l:List Value):Wf (some (v::u::l))=some (.tuple (v::u::l).toArray):=nr rfl
@[simp] theorem avn:Wf (some [])=some (.tuple #[]):=nr rfl
@[simp] theorem avm (rs:List ResultVar):tB P rs ts hp=Wf (vg P ts hp rs):=nr rfl
@[simp] theorem kB (next:GS->Prop) (K:l6) (s:GS):dY next K .normal s=next s:=nr rfl
@[simp] theorem YK (next:GS->Prop) (K:l6) (s:GS):dY next K .ret s=K .ret s:=nr rfl
@[simp] theorem UG (next:GS->Prop) (K:l6) (i:Nat) (s:GS):dY next K (.exit i) s=K (.exit i) s:=nr rfl
@[simp] theorem UH (next:GS->Prop) (K:l6) (i:Nat) (s:GS):dY next K (.goto i) s=K (.goto i) s:=nr rfl
@[simp] theorem CX (next:GS->Prop) (K:l6) (ch:List PanicEntry) (s:GS):dY next K (.panic ch) s=K (.panic ch) s:=nr rfl
@[simp] theorem Mp (i:Nat) (K:l6) (ch:List PanicEntry) (s:GS):l8 i K (.panic ch) s=K (.panic ch) s:=nr rfl
@[simp] theorem MX (l:Nat) (J:GS->Prop) (K:l6) (s:GS):tY l J K .normal s=K .normal s:=nr rfl
@[simp] theorem XG (l:Nat) (J:GS->Prop) (K:l6) (s:GS):tY l J K .ret s=K .ret s:=nr rfl
@[simp] theorem TG (l i:Nat) (J:GS->Prop) (K:l6) (s:GS):tY l J K (.exit i) s=K (.exit i) s:=nr rfl
@[simp] theorem O0 (l:Nat) (ch:List PanicEntry) (J:GS->Prop) (K:l6) (s:GS):tY l J K (.panic ch) s=K (.panic ch) s:=nr rfl
@[simp] theorem oH (i:Nat) (K:l6) (s:GS):l8 i K .normal s=K .normal s:=nr rfl
@[simp] theorem SP (i:Nat) (K:l6) (s:GS):l8 i K .ret s=K .ret s:=nr rfl
@[simp] theorem CJ (i j:Nat) (K:l6) (s:GS):l8 i K (.exit j) s=if j=i then K .normal s else K (.exit j) s:=nr rfl
@[simp] theorem NW (i j:Nat) (K:l6) (s:GS):l8 i K (.goto j) s=K (.goto j) s:=nr rfl
theorem wN:(∀ (J:GS->Prop) (K:l6) (s:GS),dY J K .normal s=J s)/\(∀ (J:GS->Prop) (K:l6) (s:GS),dY J K .ret s=K .ret s)/\(∀ (J:GS->Prop) (K:l6) (i:Nat) (s:GS),dY J K (.exit i) s=K (.exit i) s) /\
  (∀ (J:GS->Prop) (K:l6) (i:Nat) (s:GS),dY J K (.goto i) s=K (.goto i) s)/\(∀ (J:GS->Prop) (K:l6) (ch:List PanicEntry) (s:GS),dY J K (.panic ch) s=K (.panic ch) s) /\
  (∀ (i:Nat) (K:l6) (s:GS),l8 i K .normal s=K .normal s)/\(∀ (i:Nat) (K:l6) (s:GS),l8 i K .ret s=K .ret s)/\(∀ (i j:Nat) (K:l6) (s:GS),l8 i K (.goto j) s=K (.goto j) s)/\(∀ (i:Nat) (K:l6) (ch:List PanicEntry) (s:GS),l8 i K (.panic ch) s=K (.panic ch) s) /\
  (∀ (l:Nat) (J:GS->Prop) (K:l6) (s:GS),tY l J K .normal s=K .normal s)/\(∀ (l:Nat) (J:GS->Prop) (K:l6) (s:GS),tY l J K .ret s=K .ret s)/\(∀ (l i:Nat) (J:GS->Prop) (K:l6) (s:GS),tY l J K (.exit i) s=K (.exit i) s)/\∀ (l:Nat) (ch:List PanicEntry) (J:GS->Prop) (K:l6) (s:GS),tY l J K (.panic ch) s=K (.panic ch) s :=
 ⟨kB,YK,UG,UH,CX,oH,SP,NW,Mp,MX,XG,TG,O0⟩
theorem wT:(∀ (a:Oper) (i:Nat) (l:og),(a::l).take (i+1)=a::l.take i)/\(∀ l:List Oper,l.take 0=[])/\(∀ (a:Oper) (i:Nat) (l:og),(a::l).drop (i+1)=l.drop i)/\(∀ l:List Oper,l.drop 0=l)/\∀ n:Nat,0+n=n:=⟨λ_ _ _=>rfl,λ_=>rfl,λ_ _ _=>rfl,λ_=>rfl,cD⟩
end

section
variable {P:Program}
theorem iB {T:TypeId} {m:Nat} (h1:oe P T=some true) (h2:bo P T=some m) (c:ca) (off:Nat):eV P T c off=if off+m<=c.size then some (.agg (c.extract off (off+m))) else none:=by
 simp [eV,h1,h2]
def qS (v:Option Value):Option Value :=
 match v with
 | some v=>if qR v then some v else none
 | none=>none
@[simp] theorem ape (b:Bool):qS (some (.bool b))=some (.bool b):=nr rfl
@[simp] theorem as3 (k:IntKind) (n:Int):qS (some (.int k n))=some (.int k n):=nr rfl
@[simp] theorem ahH (a:qE):qS (some (.pointer a))=some (.pointer a):=nr rfl
@[simp] theorem anf (a:qE) (n c:Nat):qS (some (.slice a n c))=some (.slice a n c):=nr rfl
@[simp] theorem apf (f:Fn) (a b:ca):qS (some (.func f a b))=some (.func f a b):=nr rfl
@[simp] theorem ajG (s:ByteArray):qS (some (.string s))=some (.string s):=nr rfl
theorem fZ {T:TypeId} (h1:oe P T=some false) (c:ca) (off:Nat):eV P T c off=qS c[off]?:=by
 unfold eV qS;simp only [h1]
 rfl
theorem fR {T:TypeId} {z:Value} (h:∀ w,(zeroValue T).run P w=.ok z w):dm P T=some z:=by
 have h:=h default;unfold dm;unfold zeroValue typeInfo at h
 cases hi:P.info? T with
 | none=>simp [hi,stuck] at h
 | some i =>
  simp [hi] at h
  cases hz:i.zero with
  | none=>simp [hz,unsupported] at h
  | some u=>simp [hz] at h;simp [hz,h]
theorem aG {T:TypeId} {m:Nat} (h:∀ w,(sizeOf T).run P w=.ok m w):bo P T=some m:=by
 have h:=h default;unfold bo;unfold sizeOf typeInfo at h
 cases hi:P.info? T with
 | none=>simp [hi,stuck] at h
 | some i=>simp [hi] at h;simp [h]
theorem cr {T:TypeId} {b:Bool} (h:∀ w,(isAgg T).run P w=.ok b w):oe P T=some b:=by
 have h:=h default;unfold oe;unfold isAgg underlying at h
 cases hi:P.underlying T with
 | none=>simp [hi,stuck] at h
 | some i=>cases i<;>simp_all
theorem qo {T e:TypeId} {n m:Nat} (hu:P.underlying T=some (.array n e)) (hs:bo P e=some m):dw P T=some (.inr m):=by simp [dw,hu,hs]
theorem Mo {T e:TypeId} {n:Nat} {k:IntKind} (hu:P.underlying T=some (.array n e)) (he:P.underlying e=some (.int k)) (hs:bo P e=some 1) (hg:P.eqGuardType P.depth T=false):BM P T=some n:=by
 simp [BM,hu,he,hs,hg]
theorem ZT {T:TypeId} (hu:P.underlying T=some .bool):CK P T=true:=by simp [CK,hu]
end
theorem Qn {p:Prop} (h:p:=by exact .inl h):p:=h
theorem Da {p:Prop} (h:p:=by rw [hG];exact dA (λp hp=>(hm p hp).2.2.1) dp):p:=h
theorem Gr {p:Prop} (h:p:=by
 rcases dE hb with h|h
 ·exact (hm _ h).2.1
 ·exact Blk.flat_ids ((eg k b h).2)):p:=h
theorem Hd {p:Prop} (h:p:=by
 unfold dom at hd
 cases hb:hpL G m0 k with
 | none=>exact absurd hb hd
 | some b =>
  rcases dE hb with h|h
  ·exact (hk _ h).2
  ·have dp:=(eg k b h).1;omega):p:=h

def tsL:List (Nat×Value)->Nat->Value
 | []=>λ_=>fP
 | (k,v)::l=>upd (tsL l) k v
def hpL (G:Hp):List (Nat×Blk)->Hp
 | []=>G
 | (k,b)::m=>upd (hpL G m) k (some b)
@[simp] theorem avy (t:Nat):tsL [] t=fP:=nr rfl
@[simp] theorem Kf (k:Nat) (v:Value) (l:List (Nat×Value)) (t:Nat):tsL ((k,v)::l) t=if t=k then v else tsL l t:=nr rfl
@[simp] theorem eH (G:Hp):hpL G []=G:=nr rfl
@[simp] theorem bV (G:Hp) (k:Nat) (b:Blk) (m:cf) (t:Nat):hpL G ((k,b)::m) t=if t=k then some b else hpL G m t:=nr rfl

theorem od:∀ {l:List (Nat×Value)} {t:Nat},tsL l t=fP\/(t,tsL l t)∈l
 | [],_=>.inl rfl
 | (k,v)::l,t=>by
  rw [Kf];split
  ·rename_i e;subst e;exact .inr zS
  ·rcases od (l:=l) (t:=t) with h|h
   ·exact Qn
   ·exact .inr (aD _ h)
theorem dE {G:Hp}:∀ {m:cf} {k:Nat} {b:Blk},hpL G m k=some b->(k,b)∈m\/G k=some b
 | [],_,_,h=>.inr h
 | (q,c)::m,k,b,h=>by
  rw [bV] at h;split at h
  ·rename_i e;subst e;cases h;exact .inl zS
  ·exact (dE h).imp (aD _) id
theorem dA {G:Hp}:∀ {m:cf} {k:Nat},(∀ p∈m,100<=p.1)->k<100->hpL G m k=G k
 | [],_,_,_=>rfl
 | (q,c)::m,k,h,hk=>by
  have:=h (q,c) zS;rw [bV,ae (by simp at this;omega)];exact dA (λp hp=>h p (aD _ hp)) hk
theorem qi {G:Hp} (eg:c7 G) {m:cf} {rs:List Nat} (h:∀ p∈m,p.1∈rs):rst (hpL G m) rs=hpL G m:=funext λk=>by
 unfold rst;split
 ·rfl
 ·rename_i hk
  cases hb:hpL G m k with
  | none=>rfl
  | some b =>
   rcases dE hb with h1|h1
   ·exact absurd (.inr (h _ h1)) hk
   ·exact absurd (.inl (eg k b h1).1) hk

theorem cB {C:Ctx} {G:Hp} {s:GS} {m m0:cf} (l:List (Nat×Value)) (B:Nat) (hG:C.G=G) (eg:c7 G) (h0:C.hp0=hpL G m0) (hB:100<=B) (hl:∀ p∈l,s.ts p.1=p.2/\aL (dom (hpL G m)) p.2)
  (hm:∀ p∈m,s.hp p.1=some p.2/\p.2.ids (dom (hpL G m))/\100<=p.1/\p.1<B) (hk:∀ p∈m0,100<=p.1/\hpL G m p.1=s.hp p.1):Weak C s ⟨tsL l,hpL G m,B,s.yc⟩ where
 ts t:=by
  rcases od (l:=l) (t:=t) with h|h
  ·exact Qn
  ·exact .inr ⟨(hl _ h).1.symm,(hl _ h).2⟩
 hp k hk:=by
  dsimp only
  cases hb:hpL G m k with
  | none=>exact .inl rfl
  | some b =>
   rcases dE hb with h|h
   ·exact .inr (hm _ h).1.symm
   ·have:=(eg k b h).1;omega
 ids k b hb:=by
  exact Gr
 keep k h1k hd:=by
  rw [h0] at hd;dsimp only;exact Hd
 glob k dp:=Da
 yc:=rfl
 free x hx:=by
  dsimp only at hx |-
  cases hb:hpL G m x with
  | none=>rfl
  | some b =>
   rcases dE hb with h|h
   ·have:=(hm _ h).2.2.2;simp at this;omega
   ·have:=(eg x b h).1;omega
 low:=hB

theorem iE {P:Program} {G:Hp} {f:FuncId} {args:ca} {hp eG:Hp} {rs:List Nat} {res:Res} {nk:Nat} {K:Eff->Prop} (h:Fun P G f args eG rs res) (h1:∀ k∈rs,eG k=hp k) (h2:∀ k,k<100->eG k=G k) (h3:res.at nk) (hk:K (res.eff rs)):qO P G f args hp nk K :=
 ⟨eG,rs,res,h1,h2,h,h3,hk⟩

@[simp] theorem auM (D:iH) (b:Bool):aL D (.bool b)=True:=nr rfl
@[simp] theorem ax9 (D:iH) (k:IntKind) (n:Int):aL D (.int k n)=True:=nr rfl
@[simp] theorem aoz (D:iH) (s:ByteArray):aL D (.string s)=True:=nr rfl
@[simp] theorem aya (D:iH) (a:Addr):aL D (.pointer (some a))=D a.block:=nr rfl
@[simp] theorem arE (D:iH) (a:Addr) (n c:Nat):aL D (.slice (some a) n c)=D a.block:=nr rfl
@[simp] theorem ai7 (D:iH) (n c:Nat):aL D (.slice none n c)=True:=nr rfl
@[simp] theorem auN (D:iH) (fn:Fn) (a b:ca):aL D (.func fn a b)=((∀ x∈a,aP D x)/\∀ x∈b,aP D x):=nr rfl
@[simp] theorem arD (D:iH) (t:TypeId) (v:Value):aL D (.iface t v)=aP D v:=nr rfl
@[simp] theorem arF (D:iH):aL D undef=True:=by simp [undef,aL]
@[simp] theorem ax7 (D:iH) (k:IntKind) (n:Int):aP D (.int k n)=True:=nr rfl
@[simp] theorem ax8 (D:iH) (k:IntKind) (n:Int):aI D (.int k n)=True:=nr rfl
@[simp] theorem arC (D:iH) (a:Addr) (n c:Nat):aI D (.slice (some a) n c)=D a.block:=nr rfl
@[simp] theorem NV (l:List Value) (T:TypeId) (D:iH):(Blk.mk l.toArray T).ids D↔∀ x∈l,aI D x:=by simp [Blk.ids]
theorem sx {p:Prop} (h:p:=by rw [dH];omega):p:=h
abbrev fe := @Int.bmod_def
abbrev bM := @Int.emod_nonneg
abbrev bQ := @Int.emod_lt_of_pos
abbrev iN := @Nat.mul_add
abbrev cx := @Int.pow_add
abbrev fw := @Int.pow_pos
abbrev eY := @Int.emod_add_mul_ediv
abbrev bD := @Int.mul_assoc
abbrev dH := @Int.mul_add
abbrev bK := @Int.mul_nonneg
abbrev bW := @Int.le_of_lt
abbrev fg := @Int.mul_le_mul_of_nonneg_left
abbrev kU := @Int.mul_sub
abbrev vM := @Int.add_mul_emod_self_left
abbrev bP := @Int.emod_eq_of_lt
abbrev g7 := @Int.add_mul_ediv_left
abbrev jr := @Int.ediv_ediv_of_nonneg
abbrev rM := @Int.emod_one
abbrev gN := @Int.ediv_nonneg
abbrev rV := @Int.ediv_lt_of_lt_mul
abbrev rv := @Int.tmod_eq_emod_of_nonneg
abbrev hZ := @Int.tdiv_eq_ediv_of_nonneg
abbrev g6 := @Bool.eq_iff_iff

@[simp] theorem Qm (x:Int):IntKind.u64.wrap x=x%18446744073709551616:=by simp [IntKind.wrap,IntKind.bits,IntKind.signed]
@[simp] theorem atH (x:Int):IntKind.i64.wrap x=Int.bmod x 18446744073709551616:=by
 rw [fe];simp only [IntKind.wrap,IntKind.bits,IntKind.signed];simp;split<;>split<;>omega
@[simp] theorem apK:IntKind.u64.bits=64:=rfl
@[simp] theorem apJ:IntKind.i64.bits=64:=rfl

def wi (z:Int) (k:Nat):Int:=z / 2^(64*k)%18446744073709551616
def di (z:Int) (k:Nat):Int:=z / 2^(32*k)%4294967296
def car (z y c:Int) (i:Nat):Int:=(z%2^(32*i)+y%2^(32*i)+c) / 2^(32*i)

theorem dJ (z:Int) (k:Nat):0<=wi z k:=bM _ zO
theorem eJ (z:Int) (k:Nat):wi z k<18446744073709551616:=bQ _ zO
theorem AE (z:Int) (k:Nat):0<=di z k:=bM _ zO
theorem AF (z:Int) (k:Nat):di z k<4294967296:=bQ _ zO

theorem uM (i:Nat):(2:Int)^(32*(i+1))=2^(32*i)*4294967296:=by
 rw [iN,cx];rfl
theorem dM (i:Nat):(0:Int)<2^(32*i):=fw zD

theorem mh (z M B:Int) (hM:0<M) (hB:0<B):z%(M*B)=z%M+M*(z / M%B):=by
 have h1:=eY z M;have h2:=eY (z / M) B;have h3:=bM z (b:=M) zO;have h4:=bQ z hM;have h5:=bM (z / M) (b:=B) zO;have h6:=bQ (z / M) hB
 have e:z=(z%M+M*(z / M%B))+(M*B)*(z / M / B):=by
  have:M*B*(z / M / B)=M*(B*(z / M / B)):=bD ..;rw [this];have h7:M*(z / M)=M*(z / M%B+B*(z / M / B)):=by rw [h2]
  rw [dH] at h7;omega
 have Lk:0<=z%M+M*(z / M%B):=by
  have:=bK (bW hM) h5;omega
 have dp:z%M+M*(z / M%B)<M*B:=by
  have:M*(z / M%B)<=M*(B - 1):=fg zO (bW hM);rw [kU] at this;omega
 conv=>lhs;rw [e]
 rw [vM];exact bP Lk dp

theorem IW (z y c M:Int) (hM:0<M):(z+y+c) / M=z / M+y / M+(z%M+y%M+c) / M:=by
 have h1:=eY z M;have h2:=eY y M;have:z+y+c=(z%M+y%M+c)+M*(z / M+y / M):=sx;rw [this,g7 _ _ zO];omega

theorem akn (z y c:Int) (i:Nat):(di z i+di y i+car z y c i)%4294967296=di (z+y+c) i:=by
 unfold di car;rw [IW z y c _ (dM i)];omega
theorem ZY (z y c:Int) (i:Nat):(di z i+di y i+car z y c i) / 4294967296=car z y c (i+1):=by
 unfold di car;rw [uM,mh z _ _ (dM i) zO,mh y _ _ (dM i) zO];generalize hM:(2:Int)^(32*i)=M;have hp:0<M:=hM▸dM i;have e:z%M+M*(z / M%4294967296)+(y%M+M*(y / M%4294967296))+c=(z%M+y%M+c)+M*(z / M%4294967296+y / M%4294967296):=sx;rw [e,<-jr (bW hp),g7 _ _ zO];congr 1;omega
theorem NZ (z y c:Int):car z y c 0=c:=by simp [car,rM]
theorem Mq (z y c:Int) (h0:0<=c) (h1:c<=1) (i:Nat):0<=car z y c i/\car z y c i<=1:=by
 unfold car;generalize hM:(2:Int)^(32*i)=M;have hp:0<M:=hM▸dM i;have h3:=bM z (b:=M) zO;have h4:=bQ z hp;have h5:=bM y (b:=M) zO;have h6:=bQ y hp;refine ⟨gN zO zO,?_⟩;have:(z%M+y%M+c) / M<2:=rV hp zO;omega
theorem ap5 (z y c:Int) (h0:0<=c) (h1:c<=1) (i:Nat):((di z i+di y i+car z y c i)%18446744073709551616).tmod 4294967296=di (z+y+c) i:=by
 have:=Mq z y c h0 h1 i;have:=AE z i;have:=AF z i;have:=AE y i;have:=AF y i;rw [rv zO,bP (a:=_+_) zO zO,akn]
theorem av5 (z y c:Int) (h0:0<=c) (h1:c<=1) (i:Nat):((di z i+di y i+car z y c i)%18446744073709551616).tdiv 4294967296%18446744073709551616=car z y c (i+1):=by
 have:=Mq z y c h0 h1 i;have:=AE z i;have:=AF z i;have:=AE y i;have:=AF y i;rw [hZ zO,<-ZY];omega
@[simp] theorem aCb (z:Int) (k:Nat):di z k%18446744073709551616=di z k:=by have:=AE z k;have:=AF z k;omega

def sz (z:Int):Int:=Int.bmod z 115792089237316195423570985008687907853269984665640564039457584007913129639936
theorem anE (z:Int):z%115792089237316195423570985008687907853269984665640564039457584007913129639936=wi z 0+18446744073709551616*wi z 1+340282366920938463463374607431768211456*wi z 2+6277101735386680763835789423207666416102355444464034512896*wi z 3:=by
 simp only [wi];omega
theorem weq (a b:Int):(wi a 0==wi b 0&&(wi a 1==wi b 1&&(wi a 2==wi b 2&&wi a 3==wi b 3)))=decide (sz a=sz b):=by
 rw [g6];simp only [bn,beq_iff_eq,db];have h1:=anE a;have h2:=anE b
 have e:sz a=sz b↔a%115792089237316195423570985008687907853269984665640564039457584007913129639936=b%115792089237316195423570985008687907853269984665640564039457584007913129639936:=by
  unfold sz;rw [fe,fe];constructor<;>intro h
  ·split at h<;>split at h<;>omega
  ·have h:a%((115792089237316195423570985008687907853269984665640564039457584007913129639936:Nat):Int)=b%((115792089237316195423570985008687907853269984665640564039457584007913129639936:Nat):Int):=h;rw [h]
 rw [e];constructor
 ·rintro ⟨h3,h4,h5,h6⟩;rw [h1,h2,h3,h4,h5,h6]
 ·intro h;simp only [wi];refine ⟨?_,?_,?_,?_⟩<;>omega
theorem wne (a b:Int):(!wi a 0==wi b 0||(!wi a 1==wi b 1||(!wi a 2==wi b 2||!wi a 3==wi b 3)))=!decide (sz a=sz b):=by
 rw [<-weq];simp [Bool.not_and]
def i64 (n:Int):Prop:=-9223372036854775808<=n/\n<9223372036854775808
instance (n:Int):Decidable (i64 n):=by unfold i64;infer_instance
theorem NX (x:Int):i64 (Int.bmod x 18446744073709551616):=by
 unfold i64;rw [fe];constructor<;>split<;>omega
theorem abV (z:Int):sz (Int.bmod (wi z 0) 18446744073709551616)=sz z↔i64 (sz z):=by
 simp only [wi,sz,i64,fe];constructor
 ·intro h;constructor<;>(repeat' split at h)<;>(repeat' split)<;>omega
 ·rintro ⟨h1,h2⟩;(repeat' split at h1)<;>(repeat' split)<;>omega
theorem VI (z:Int) (h:i64 (sz z)):Int.bmod (wi z 0) 18446744073709551616=sz z:=by
 simp only [wi,sz,i64,fe] at *
 obtain ⟨h1,h2⟩:=h
 (repeat' split at h1)<;>(repeat' split)<;>omega
def dv (a b:Int):Int:=if a<b then -1 else if a=b then 0 else 1
end Go.Gy
namespace Go.Gy
open Go Go.RowKit Go.Proofs.Tryz
theorem ah {p:Prop} (h:p:=by kernel_rfl):p:=h
theorem pC {p:Prop} (h:p:=by simp only [fdX,underlying24,aG sizeOf3];kernel_rfl):p:=h
theorem DG {p:Prop} (h:p:=by simp only [fdX,underlying32,aG sizeOf30];kernel_rfl):p:=h
theorem r9 {p:Prop} (h:p:=by simp only [fdX,underlying35,aG sizeOf33];kernel_rfl):p:=h
theorem Dr {p:Prop} (h:p:=by simp only [fdX,underlying38,aG sizeOf33];kernel_rfl):p:=h
theorem De {p:Prop} (h:p:=by simp only [fdX,underlying72,aG sizeOf70];kernel_rfl):p:=h
theorem Dm {p:Prop} (h:p:=by simp only [fdX,underlying85,aG sizeOf83];kernel_rfl):p:=h
theorem Dl {p:Prop} (h:p:=by simp only [fdX,underlying128,aG sizeOf3];kernel_rfl):p:=h
theorem wZ {p:Prop} (h:p:=by simp only [fdX,underlying136,aG sizeOf3];kernel_rfl):p:=h
theorem follows:prog.follows .mixedOrders=true:=ah
section
variable {P:Program} {C:Ctx} {n:Nat} {d:List Deferred} {ro:Option Nat} {s:GS} {K:l6}
theorem gwS {x y:Code} (h:GW P C n d ro x s (dY (λs'=>GW P C n d ro y s' K) K)):GW P C n d ro (.seq x y) s K:=tu h
theorem gwK (h:K .normal s):GW P C n d ro .skip s K:=U0 h
theorem gwT (h:K .ret s):GW P C n d ro .ret s K:=Zu h
theorem gwE {id:Nat} (h:K (.exit id) s):GW P C n d ro (.exit id) s K:=aeP h
theorem gwG {id:Nat} (h:K (.goto id) s):GW P C n d ro (.goto id) s K:=aeQ h
theorem gwL {id:Nat} (h:K .normal s):GW P C n d ro (.label id) s K:=NL h
theorem gwB {id:Nat} {c:Code} (h:GW P C n d ro c s (l8 id K)):GW P C n d ro (.block id c) s K:=Is h
theorem gwC {t:Tmp} {x y:Code} {b:Bool} (ht:b=true->GW P C n d ro x s K) (hf:b=false->GW P C n d ro y s K) (hb:s.ts t=.bool b:=by simp;rfl):GW P C n d ro (.cond (.tmp t) x y) s K:=L9 hb ht hf
theorem gwR {id:Nat} {l:og} (pn:List FuncId) (h:∀ (Q:QQ),(∀ ts hp tr yc,true=true->K .normal ⟨ts,hp,s.B+8*l.length,yc⟩->Q.q ts hp tr yc)->(∀ pv tr,true=true->(∀ yc,K (.panic [{ v:=pv,recovered:=false }]) ⟨r4 l s.ts,s.hp,s.B,yc⟩)->Q.p pv tr)->mz P C.G ⟨C.Y,pn,false⟩ s.B Q [] 0 l s.ts s.hp [] s.yc false false)
  (jJ:(pW n l&&Av P l)=true:=by kernel_rfl):GW P C n d ro (.region id l.toArray false) s K:=kN pn jJ λQ hQ hP=>h Q (λts hp tr yc _=>hQ ts hp tr yc) (λpv tr _=>hP pv tr)
theorem gwD {id:Nat} {l:og} (pn:List FuncId) (h:∀ (Q:QQ),(∀ ts hp tr yc,chk .any l.toArray tr=true->K .normal ⟨ts,hp,s.B+8*l.length,yc⟩->Q.q ts hp tr yc)->(∀ pv tr,chk .any l.toArray tr=true->(∀ yc,K (.panic [{ v:=pv,recovered:=false }]) ⟨r4 l s.ts,s.hp,s.B,yc⟩)->Q.p pv tr)->mz prog C.G ⟨C.Y,pn,true⟩ s.B Q [] 0 l s.ts s.hp [] s.yc false false)
  (hB:Region.lexFrom .any l.toArray l.length 0 (Array.replicate l.length false)=true:=by kernel_rfl) (jJ:(pW n l&&Av prog l)=true:=by kernel_rfl):GW prog C n d ro (.region id l.toArray true) s K:=Zt pn follows hB jJ h
theorem wM:(∀ (a:Oper) (l:og),(a::l).length=l.length+1)/\([]:List Oper).length=0:=⟨λ_ _=>rfl,rfl⟩
end
@[simp] theorem ts1:bo prog 1=some 1:=aG sizeOf1
@[simp] theorem ts2:bo prog 2=some 1:=aG sizeOf2
@[simp] theorem tz3:dm prog 3=some (.int .i64 0):=fR zeroValue3
@[simp] theorem ts3:bo prog 3=some 1:=aG sizeOf3
@[simp] theorem lb3:∀ c off,eV prog 3 c off=qS c[off]?:=fZ (cr isAgg3)
@[simp] theorem aDQ:OW prog 3=true:=ah
@[simp] theorem aDP:ID prog 3=none:=ah
@[simp] theorem tz4:dm prog 4=some (.bool false):=fR zeroValue4
@[simp] theorem ts4:bo prog 4=some 1:=aG sizeOf4
@[simp] theorem lb4:∀ c off,eV prog 4 c off=qS c[off]?:=fZ (cr isAgg4)
@[simp] theorem bo4:CK prog 4=true:=ZT underlying4
@[simp] theorem lb5:∀ c off,eV prog 5 c off=qS c[off]?:=fZ (cr isAgg5)
@[simp] theorem ts9:bo prog 9=some 1:=aG sizeOf9
@[simp] theorem lb9:∀ c off,eV prog 9 c off=qS c[off]?:=fZ (cr isAgg9)
@[simp] theorem aDX:∀ c off,eV prog 22 c off=qS c[off]?:=fZ (cr isAgg22)
@[simp] theorem aE1:dm prog 24=some (.agg #[.slice none 0 0,.int .i64 0,.int .i64 0,.int .i64 0,.int .i64 0,.int .i64 0]):=fR zeroValue24
@[simp] theorem ayW:bo prog 24=some 6:=aG sizeOf24
@[simp] theorem aDY:∀ c off,eV prog 24 c off=if off+6<=c.size then some (.agg (c.extract off (off+6))) else none:=iB (cr isAgg24) ayW
@[simp] theorem awf:fdX prog 24 0=some (22,0):=by simp only [fdX,underlying24,aG sizeOf22];kernel_rfl
@[simp] theorem awg:fdX prog 24 1=some (3,1):=pC
@[simp] theorem awh:fdX prog 24 2=some (3,2):=pC
@[simp] theorem awi:fdX prog 24 3=some (3,3):=pC
@[simp] theorem awj:fdX prog 24 4=some (3,4):=pC
@[simp] theorem awk:fdX prog 24 5=some (3,5):=pC
@[simp] theorem aEu:dw prog 24=some (.inl [(0,1),(1,1),(2,1),(3,1),(4,1),(5,1)]):=by simp only [dw,underlying24];kernel_rfl
@[simp] theorem aEW:bo prog 25=some 1:=aG sizeOf25
@[simp] theorem aDZ:∀ c off,eV prog 25 c off=qS c[off]?:=fZ (cr isAgg25)
@[simp] theorem aE2:dm prog 27=some (.agg #[.int .i64 0,.slice none 0 0]):=fR zeroValue27
@[simp] theorem ayX:bo prog 27=some 2:=aG sizeOf27
@[simp] theorem aD0:∀ c off,eV prog 27 c off=if off+2<=c.size then some (.agg (c.extract off (off+2))) else none:=iB (cr isAgg27) ayX
@[simp] theorem awl:fdX prog 27 0=some (3,0):=by simp only [fdX,underlying27,aG sizeOf3];kernel_rfl
@[simp] theorem awm:fdX prog 27 1=some (25,1):=by simp only [fdX,underlying27,aG sizeOf25];kernel_rfl
@[simp] theorem aEv:dw prog 27=some (.inl [(0,1),(1,1)]):=by simp only [dw,underlying27];kernel_rfl
@[simp] theorem aEX:bo prog 28=some 1:=aG sizeOf28
@[simp] theorem aD1:∀ c off,eV prog 28 c off=qS c[off]?:=fZ (cr isAgg28)
@[simp] theorem aE3:dm prog 30=some (.agg #[.int .u64 0,.int .u64 0,.int .u64 0,.int .u64 0]):=fR zeroValue30
@[simp] theorem ayY:bo prog 30=some 4:=aG sizeOf30
@[simp] theorem aD2:∀ c off,eV prog 30 c off=if off+4<=c.size then some (.agg (c.extract off (off+4))) else none:=iB (cr isAgg30) ayY
@[simp] theorem aEw:dw prog 30=some (.inr 1):=qo underlying30 (aG sizeOf28)
@[simp] theorem azs:ID prog 30=some 4:=ah
@[simp] theorem aBX:BM prog 30=some 4:=Mo underlying30 underlying28 (aG sizeOf28) eqGuardType30
@[simp] theorem aE4:dm prog 32=some (.agg #[.int .u64 0,.int .u64 0,.int .u64 0,.int .u64 0,.int .u64 0,.int .u64 0,.int .u64 0,.int .u64 0]):=fR zeroValue32
@[simp] theorem ayZ:bo prog 32=some 8:=aG sizeOf32
@[simp] theorem aD3:∀ c off,eV prog 32 c off=if off+8<=c.size then some (.agg (c.extract off (off+8))) else none:=iB (cr isAgg32) ayZ
@[simp] theorem awn:fdX prog 32 0=some (30,0):=DG
@[simp] theorem awo:fdX prog 32 1=some (30,4):=DG
@[simp] theorem aEx:dw prog 32=some (.inl [(0,4),(4,4)]):=by simp only [dw,underlying32];kernel_rfl
@[simp] theorem aE5:dm prog 33=some (.agg #[.int .i64 0,.int .i64 0,.int .i64 0]):=fR zeroValue33
@[simp] theorem ay0:bo prog 33=some 3:=aG sizeOf33
@[simp] theorem aD4:∀ c off,eV prog 33 c off=if off+3<=c.size then some (.agg (c.extract off (off+3))) else none:=iB (cr isAgg33) ay0
@[simp] theorem aEy:dw prog 33=some (.inr 1):=qo underlying33 (aG sizeOf3)
@[simp] theorem azt:ID prog 33=some 3:=ah
@[simp] theorem aBY:BM prog 33=some 3:=Mo underlying33 underlying3 (aG sizeOf3) eqGuardType33
@[simp] theorem aBl:snF prog 32=some ([(30,0),(30,4)],8):=ah
@[simp] theorem aBk:ID prog 32=none:=ah
@[simp] theorem aBm:OW prog 32=false:=ah
@[simp] theorem aE6:dm prog 35=some (.agg #[.int .i64 0,.int .u64 0,.int .u64 0,.int .u64 0,.int .u64 0,.int .u64 0,.int .u64 0,.int .u64 0,.int .u64 0,.int .i64 0,.int .i64 0,.int .i64 0,.int .i64 0,.int .i64 0,.int .i64 0,.int .i64 0,.int .i64 0,.int .i64 0,.int .i64 0,.int .i64 0,.int .i64 0]):=fR zeroValue35
@[simp] theorem ay1:bo prog 35=some 21:=aG sizeOf35
@[simp] theorem aD5:∀ c off,eV prog 35 c off=if off+21<=c.size then some (.agg (c.extract off (off+21))) else none:=iB (cr isAgg35) ay1
@[simp] theorem awp:fdX prog 35 0=some (3,0):=by simp only [fdX,underlying35,aG sizeOf3];kernel_rfl
@[simp] theorem awq:fdX prog 35 1=some (32,1):=by simp only [fdX,underlying35,aG sizeOf32];kernel_rfl
@[simp] theorem awr:fdX prog 35 2=some (33,9):=r9
@[simp] theorem aws:fdX prog 35 3=some (33,12):=r9
@[simp] theorem awt:fdX prog 35 4=some (33,15):=r9
@[simp] theorem awu:fdX prog 35 5=some (33,18):=r9
@[simp] theorem azv:BM prog 35=none:=ah
@[simp] theorem aBo:r6 prog 35=some [(3,0),(32,1),(33,9),(33,12),(33,15),(33,18)]:=ah
@[simp] theorem aEz:dw prog 35=some (.inl [(0,1),(1,8),(9,3),(12,3),(15,3),(18,3)]):=by simp only [dw,underlying35];kernel_rfl
@[simp] theorem aD6:∀ c off,eV prog 36 c off=qS c[off]?:=fZ (cr isAgg36)
@[simp] theorem aE7:dm prog 38=some (.agg #[.int .u64 0,.int .u64 0,.int .u64 0,.int .u64 0,.int .u64 0,.int .u64 0,.int .u64 0,.int .u64 0,.int .i64 0,.int .i64 0,.int .i64 0,.int .i64 0,.int .i64 0,.int .i64 0]):=fR zeroValue38
@[simp] theorem ay2:bo prog 38=some 14:=aG sizeOf38
@[simp] theorem aD7:∀ c off,eV prog 38 c off=if off+14<=c.size then some (.agg (c.extract off (off+14))) else none:=iB (cr isAgg38) ay2
@[simp] theorem awv:fdX prog 38 0=some (32,0):=by simp only [fdX,underlying38,aG sizeOf32];kernel_rfl
@[simp] theorem aww:fdX prog 38 1=some (33,8):=Dr
@[simp] theorem awx:fdX prog 38 2=some (33,11):=Dr
@[simp] theorem aEA:dw prog 38=some (.inl [(0,8),(8,3),(11,3)]):=by simp only [dw,underlying38];kernel_rfl
@[simp] theorem aE8:dm prog 41=some (.int .i64 0):=fR zeroValue41
@[simp] theorem aEY:bo prog 41=some 1:=aG sizeOf41
@[simp] theorem aD8:∀ c off,eV prog 41 c off=qS c[off]?:=fZ (cr isAgg41)
@[simp] theorem aE9:dm prog 70=some (.agg #[.int .i64 0,.int .i64 0,.int .i64 0]):=fR zeroValue70
@[simp] theorem ay3:bo prog 70=some 3:=aG sizeOf70
@[simp] theorem aD9:∀ c off,eV prog 70 c off=if off+3<=c.size then some (.agg (c.extract off (off+3))) else none:=iB (cr isAgg70) ay3
@[simp] theorem aEB:dw prog 70=some (.inr 1):=qo underlying70 (aG sizeOf3)
@[simp] theorem azu:ID prog 70=some 3:=ah
@[simp] theorem aBZ:BM prog 70=some 3:=Mo underlying70 underlying3 (aG sizeOf3) eqGuardType70
@[simp] theorem aFa:dm prog 72=some (.agg #[.int .i64 0,.int .i64 0,.int .i64 0,.int .i64 0,.int .i64 0,.int .i64 0]):=fR zeroValue72
@[simp] theorem ay4:bo prog 72=some 6:=aG sizeOf72
@[simp] theorem aEa:∀ c off,eV prog 72 c off=if off+6<=c.size then some (.agg (c.extract off (off+6))) else none:=iB (cr isAgg72) ay4
@[simp] theorem awy:fdX prog 72 0=some (70,0):=De
@[simp] theorem awz:fdX prog 72 1=some (70,3):=De
@[simp] theorem azw:BM prog 72=none:=ah
@[simp] theorem aBp:r6 prog 72=some [(70,0),(70,3)]:=ah
@[simp] theorem aEC:dw prog 72=some (.inl [(0,3),(3,3)]):=by simp only [dw,underlying72];kernel_rfl
@[simp] theorem aEb:∀ c off,eV prog 82 c off=qS c[off]?:=fZ (cr isAgg82)
@[simp] theorem aEc:∀ c off,eV prog 83 c off=qS c[off]?:=fZ (cr isAgg83)
@[simp] theorem aFb:dm prog 85=some (.agg #[.pointer none,.pointer none]):=fR zeroValue85
@[simp] theorem aEZ:bo prog 85=some 2:=aG sizeOf85
@[simp] theorem awA:fdX prog 85 0=some (83,0):=Dm
@[simp] theorem awB:fdX prog 85 1=some (83,1):=Dm
@[simp] theorem aED:dw prog 85=some (.inl [(0,1),(1,1)]):=by simp only [dw,underlying85];kernel_rfl
@[simp] theorem aFc:dm prog 96=some (.agg #[.int .u64 0,.int .u64 0,.int .u64 0,.int .u64 0,.int .u64 0,.int .u64 0,.int .u64 0,.int .u64 0]):=fR zeroValue96
@[simp] theorem ay5:bo prog 96=some 8:=aG sizeOf96
@[simp] theorem aEd:∀ c off,eV prog 96 c off=if off+8<=c.size then some (.agg (c.extract off (off+8))) else none:=iB (cr isAgg96) ay5
@[simp] theorem aEE:dw prog 96=some (.inr 1):=qo underlying96 (aG sizeOf28)
@[simp] theorem aAJ:∀ c off,eV prog 109 c off=qS c[off]?:=fZ (cr isAgg109)
@[simp] theorem aBC:dm prog 128=some (.agg #[.int .u8 0,.int .i64 0,.int .i64 0]):=fR zeroValue128
@[simp] theorem ati:bo prog 128=some 3:=aG sizeOf128
@[simp] theorem aAK:∀ c off,eV prog 128 c off=if off+3<=c.size then some (.agg (c.extract off (off+3))) else none:=iB (cr isAgg128) ati
@[simp] theorem auh:fdX prog 128 0=some (5,0):=by simp only [fdX,underlying128,aG sizeOf5];kernel_rfl
@[simp] theorem aui:fdX prog 128 1=some (3,1):=Dl
@[simp] theorem auj:fdX prog 128 2=some (3,2):=Dl
@[simp] theorem aA1:dw prog 128=some (.inl [(0,1),(1,1),(2,1)]):=by simp only [dw,underlying128];kernel_rfl
@[simp] theorem aBD:dm prog 136=some (.agg #[.int .i64 0,.int .i64 0,.int .i64 0]):=fR zeroValue136
@[simp] theorem aBA:bo prog 136=some 3:=aG sizeOf136
@[simp] theorem auk:fdX prog 136 0=some (3,0):=wZ
@[simp] theorem aul:fdX prog 136 1=some (3,1):=wZ
@[simp] theorem aum:fdX prog 136 2=some (3,2):=wZ
@[simp] theorem aA2:dw prog 136=some (.inl [(0,1),(1,1),(2,1)]):=by simp only [dw,underlying136];kernel_rfl
@[simp] theorem aBE:dm prog 149=some (.agg #[.int .u64 0,.int .u64 0,.int .u64 0,.int .u64 0,.int .u64 0,.int .u64 0,.int .u64 0,.int .u64 0,.int .u64 0,.int .u64 0,.int .u64 0,.int .u64 0,.int .u64 0,.int .u64 0,.int .u64 0,.int .u64 0]):=fR zeroValue149
@[simp] theorem atj:bo prog 149=some 16:=aG sizeOf149
@[simp] theorem aAL:∀ c off,eV prog 149 c off=if off+16<=c.size then some (.agg (c.extract off (off+16))) else none:=iB (cr isAgg149) atj
@[simp] theorem aAM:∀ c off,eV prog 167 c off=qS c[off]?:=fZ (cr isAgg167)
@[simp] theorem atk:bo prog 171=some 7:=aG sizeOf171
@[simp] theorem aAN:∀ c off,eV prog 171 c off=if off+7<=c.size then some (.agg (c.extract off (off+7))) else none:=iB (cr isAgg171) atk
@[simp] theorem aAO:∀ c off,eV prog 194 c off=qS c[off]?:=fZ (cr isAgg194)
@[simp] theorem aBF:dm prog 201=some (.agg #[.int .i64 0,.int .i64 0,.int .i64 0]):=fR zeroValue201
@[simp] theorem aBB:bo prog 201=some 3:=aG sizeOf201
@[simp] theorem aun:fdX prog 201 2=some (3,2):=by simp only [fdX,underlying201,aG sizeOf3];kernel_rfl
@[simp] theorem aA3:dw prog 201=some (.inl [(0,1),(1,1),(2,1)]):=by simp only [dw,underlying201];kernel_rfl
end Go.Gy
namespace Go.Gy
open Go Go.RowKit
theorem dq {Q : QQ} {c : Tr -> Prop} {K : (Nat -> Value) -> Hp -> Nat -> Prop} (hQ : ∀ ts hp tr yc, c tr -> K ts hp yc -> Q.q ts hp tr yc) {ts : Nat -> Value} {hp : Hp} {tr : Tr} {yc : Nat} (k : K ts hp yc) (h : c tr := by kernel_rfl) : Q.q ts hp tr yc := hQ _ _ _ _ h k
theorem iy {P Q : Prop} (q : Q) (h : Q -> P := by first | exact gwR [] | exact gwD []) : P := h q
theorem I6 {P Q : Prop} (q : Q) (h : Q -> P := by first | exact gwS | (intro q; simp only [wN, wM, Nat.reduceAdd, Nat.reduceMul]; exact q) | exact gwB | exact gwT | exact gwK | exact gwE | exact gwG | exact gwL | (intro q; simp only [CJ]; exact q)) : P := h q
end Go.Gy
namespace Go.Gy
open Go Go.RowKit
section
variable {P : Program} {C : Ctx} {n : Nat} {d : List Deferred} {ro : Option Nat} {s : GS} {K : Exit -> GS -> Prop}
theorem awG {t : Tmp} {x y : Code} (h : GW P C n d ro x s K) (hb : s.ts t = .bool true) : GW P C n d ro (.cond (.tmp t) x y) s K := L9 hb (λ_ => h) (λe => nomatch e)
theorem awF {t : Tmp} {x y : Code} (h : GW P C n d ro y s K) (hb : s.ts t = .bool false) : GW P C n d ro (.cond (.tmp t) x y) s K := L9 hb (λe => nomatch e) (λ_ => h)
end
theorem cT {P Q : Prop} (q : Q) (h : Q -> P := by first | exact gwS | (intro q; simp only [wN, wM, Nat.reduceAdd, Nat.reduceMul]; exact q) | exact gwB | exact gwT | exact gwK | exact gwE | exact gwG | exact gwL | (intro q; refine awG q ?_; simp; done) | (intro q; refine awF q ?_; simp; done) | (intro q; simp only [CJ]; exact q)) : P := h q
theorem cH {P Q : Prop} (q : Q) (h : Q -> P := by intro q; refine iy ?_; intro Q hQ _; simp [hC, hY]; refine dq hQ ?_; exact q) : P := h q
theorem Bz {P Q : Prop} (q : Q) (h : Q -> P := by intro q; refine iy ?_; intro Q hQ _; simp [hC, hY, hA, hS, cW, gu]; refine dq hQ ?_; exact q) : P := h q
end Go.Gy
namespace Go.Gy
open Go Go.RowKit
theorem cA {P Q F : Prop} (f : F) (q : Q) (h : F -> Q -> P := by intro f q; (repeat' first | refine cT ?_ | (refine iy ?_; intro Q hQ _; simp [hC, hY, f]; refine dq hQ ?_) | fail); exact q) : P := h f q
theorem qv {P Q F : Prop} (f : F) (q : Q) (h : F -> Q -> P := by intro f q; (repeat' first | refine GWL_start ?_ | refine GWL_step ?_ | refine cT ?_ | (refine iy ?_; intro Q hQ _; simp [hC, hY, f]; refine dq hQ ?_) | fail); exact q) : P := h f q
theorem iI {P Q : Prop} (q : Q) (h : Q -> P := by intro q; (repeat' first | refine cT ?_ | (refine iy ?_; intro Q hQ _; simp [hC, hY]; refine dq hQ ?_) | fail); exact q) : P := h q
end Go.Gy
namespace Go.Gy
open Go Go.RowKit Go.Proofs Go.Proofs.Tryz
theorem kn {p:Prop} (h:p:=by simp only [wi,di];omega):p:=h
theorem F6 {p:Prop} (h:p:=by
 have e:(-z - 1) / M=-(z / M) - 1:=by
  have h1:=eY z M;have h2:=bM z (b:=M) zO;have h3:=bQ z hp;have:-z - 1=(M - 1 - z%M)+M*(-(z / M) - 1):=by rw [kU,jo];omega
  rw [this,g7 _ _ zO,dU zO zO];omega
 rw [e];omega):p:=h
theorem lO {p:Prop} (h:p:=by
 simp [aL,cQ,aI,aP,dom]):p:=h
abbrev oW := @Int.emod_emod_of_dvd
abbrev iO := @Int.fdiv_eq_ediv_of_nonneg
abbrev jo := @Int.mul_neg
abbrev dU := @Int.ediv_eq_zero_of_lt
def lsB:Blk:=⟨#[.int .u64 0,.int .u64 0,.int .u64 0,.int .u64 9223372036854775808],.ty 30⟩
def cnB:Blk:=⟨#[.string ⟨#[98,111,100,105,101,115]⟩,.string ⟨#[109,97,115,115]⟩,.string ⟨#[99,111,110,115,116,97,110,116]⟩,.string ⟨#[98,111,120]⟩,.string ⟨#[116,111,112]⟩,.string ⟨#[110,101,97,114]⟩,.string ⟨#[109,101,116,104,111,100]⟩],.ty 171⟩
def G0L:List (Nat×Blk) :=
 (1,lsB) ::
 (0,cnB) ::
 []
def G0:Hp:=hpL (λ_=>none) G0L
theorem Ip {k:Nat} {b:Blk} (h:G0 k=some b):(k,b)∈G0L:=(dE h).resolve_right (λh=>nomatch h)
theorem G0F:c7 G0:=λk b h=>by
 have h1:∀ p∈G0L,p.1<100/\∀ x∈p.2.c,bU x=true:=by
  simp [G0L,lsB
   ,cnB
  ]
 exact h1 _ (Ip h)
@[simp] theorem vz (k:Nat) (h:100<=k):G0 k=none:=by
 cases hb:G0 k with
 | none=>rfl
 | some b=>have:=(G0F k b hb).1;omega
theorem BG {k:Nat} (h:dom G0 k):k<100:=by
 refine bu λhk=>?_;exact h (vz k zO)
theorem qt (D:iH) (k:Nat) (b:Blk) (h:G0 k=some b):b.ids D:=Blk.flat_ids ((G0F k b h).2)
@[simp] theorem apt:G0 1=some lsB:=by simp [G0,G0L]
@[simp] theorem apu:G0 0=some cnB:=by simp [G0,G0L]
theorem G0W:∃ W,GOK G0 W:=⟨{ (default:World) with heap:=Array.ofFn (n:=100) λk=>match G0 k.1 with|some b=>b.obj0|none=>.cells #[] 0 (0,0) },λk b h=>by
 have hk:=(G0F k b h).1;simp [hk,h]⟩

def wd (z:Int):Value:=.agg #[.int .u64 (wi z 0),.int .u64 (wi z 1),.int .u64 (wi z 2),.int .u64 (wi z 3)]
@[simp] theorem adY (z:Int):wd z=.agg #[.int .u64 (wi z 0),.int .u64 (wi z 1),.int .u64 (wi z 2),.int .u64 (wi z 3)]:=rfl
def dg (z:Int):Value:=.agg #[.int .u64 (di z 0),.int .u64 (di z 1),.int .u64 (di z 2),.int .u64 (di z 3),.int .u64 (di z 4),.int .u64 (di z 5),.int .u64 (di z 6),.int .u64 (di z 7)]
@[simp] theorem azE (z:Int):dg z=.agg #[.int .u64 (di z 0),.int .u64 (di z 1),.int .u64 (di z 2),.int .u64 (di z 3),.int .u64 (di z 4),.int .u64 (di z 5),.int .u64 (di z 6),.int .u64 (di z 7)]:=rfl
def ng (z:Int):Bool:=decide (9223372036854775808<=wi z 3)

theorem dw0 (z:Int):wi z 0%4294967296=di z 0:=kn
theorem dw1 (z:Int):wi z 0 / 4294967296=di z 1:=kn
theorem dw2 (z:Int):wi z 1%4294967296=di z 2:=kn
theorem dw3 (z:Int):wi z 1 / 4294967296=di z 3:=kn
theorem dw4 (z:Int):wi z 2%4294967296=di z 4:=kn
theorem dw5 (z:Int):wi z 2 / 4294967296=di z 5:=kn
theorem dw6 (z:Int):wi z 3%4294967296=di z 6:=kn
theorem dw7 (z:Int):wi z 3 / 4294967296=di z 7:=kn
theorem wd0 (z:Int):di z 1*4294967296+di z 0=wi z 0:=by rw [<-dw0,<-dw1];omega
theorem wd1 (z:Int):di z 3*4294967296+di z 2=wi z 1:=by rw [<-dw2,<-dw3];omega
theorem wd2 (z:Int):di z 5*4294967296+di z 4=wi z 2:=by rw [<-dw4,<-dw5];omega
theorem wd3 (z:Int):di z 7*4294967296+di z 6=wi z 3:=by rw [<-dw6,<-dw7];omega
theorem wim (z:Int) (k:Nat):wi z k%18446744073709551616=wi z k:=oW _ (Int.dvd_refl _)

@[simp] theorem avK (z b:Int) (k:Nat):(wi z k).tmod b=wi z k%b:=rv (dJ z k)
@[simp] theorem avJ (z b:Int) (k:Nat):(wi z k).tdiv b=wi z k / b:=hZ (dJ z k)
theorem acg (z:Int):Ret prog G0 60 #[wd z] (.bool (ng z)):=by
 refine aU G0F func60 rfl call60 rfl zS (by simp [ntmps60]) ?_;intro C hC _ hY;refine iI ?_;refine ⟨.inr trivial,?_⟩;simp [results60,ng];have:=dJ z 3;have:=eJ z 3;rw [iO _ zO];rw [g6];simp;omega
@[simp] theorem aEh (z:Int) (K:fQ):bl prog G0 60 #[.agg #[.int .u64 (wi z 0),.int .u64 (wi z 1),.int .u64 (wi z 2),.int .u64 (wi z 3)]] K↔K (.bool (ng z)):=ar G0W ah (acg z)

theorem S5 (z:Int):Ret prog G0 59 #[wd z] (dg z):=by
 refine aU G0F func59 rfl call59 zS zS (by simp [ntmps59]) ?_;intro C hC _ hY;refine cA (k8 @dw0 @dw1 @dw2 @dw3 @dw4 @dw5 @dw6 @dw7) ?_;exact eR (k9 results59 @dw0 @dw1 @dw2 @dw3 @dw4 @dw5 @dw6 @dw7)
@[simp] theorem av7 (z:Int) (K:fQ):bl prog G0 59 #[.agg #[.int .u64 (wi z 0),.int .u64 (wi z 1),.int .u64 (wi z 2),.int .u64 (wi z 3)]] K↔K (dg z):=ar G0W ah (S5 z)

theorem YW (z:Int):Ret prog G0 57 #[dg z] (wd z):=by
 refine aU G0F func57 rfl call57 zS zS (by simp [ntmps57]) ?_;intro C hC _ hY;refine iI ?_;exact eR (k6 results57 @wd0 @wd1 @wd2 @wd3 @wim)
@[simp] theorem aBN (z:Int) (K:fQ):bl prog G0 57 #[Value.agg #[.int .u64 (di (z) 0),.int .u64 (di (z) 1),.int .u64 (di (z) 2),.int .u64 (di (z) 3),.int .u64 (di (z) 4),.int .u64 (di (z) 5),.int .u64 (di (z) 6),.int .u64 (di (z) 7)]] K↔K (wd z):=ar G0W ah (YW z)

def T9 (z y c:Int) (i:Nat):GS :=
 ⟨tsL [(3,.pointer (some ⟨200,0,none⟩)),(4,.pointer (some ⟨208,0,none⟩)),(6,.pointer (some ⟨216,0,none⟩)),(7,.int .i64 i),(2,.int .u64 (car z y c i))],
 hpL G0 [(200,⟨#[.int .u64 (if 0<i then di (z+y+c) 0 else di z 0),.int .u64 (if 1<i then di (z+y+c) 1 else di z 1),.int .u64 (if 2<i then di (z+y+c) 2 else di z 2),.int .u64 (if 3<i then di (z+y+c) 3 else di z 3),
   .int .u64 (if 4<i then di (z+y+c) 4 else di z 4),.int .u64 (if 5<i then di (z+y+c) 5 else di z 5),.int .u64 (if 6<i then di (z+y+c) 6 else di z 6),.int .u64 (if 7<i then di (z+y+c) 7 else di z 7)],.ty 96⟩),
  (208,⟨#[.int .u64 (di y 0),.int .u64 (di y 1),.int .u64 (di y 2),.int .u64 (di y 3),.int .u64 (di y 4),.int .u64 (di y 5),.int .u64 (di y 6),.int .u64 (di y 7)],.ty 96⟩),
  (216,⟨#[.int .u64 0,.int .u64 0,.int .u64 0,.int .u64 0,.int .u64 0,.int .u64 0,.int .u64 0,.int .u64 0],.ty 96⟩)],300,0⟩
theorem X5 (z y c:Int) (h0:0<=c) (h1:c<=1):Ret prog G0 58 #[dg z,dg y,.int .u64 c] (dg (z+y+c)):=by
 refine aU G0F func58 rfl call58 zS zS (by simp [ntmps58]) ?_;intro C hC bA hY;refine iI ?_;refine fD 8 (T9 z y c) ?_ ?_ ?_
 ·refine cB _ 300 hC G0F (m0:=[]) bA zO ?_ ?_ ?_
  ·simp [aL,cQ,aI,aP,dom,NZ]
  ·simp [Blk.ids,aI,aP]
  ·simp
 ·intro i hi;have:i=0\/i=1\/i=2\/i=3\/i=4\/i=5\/i=6\/i=7:=zO;have A:=ap5 z y c h0 h1;have A':=av5 z y c h0 h1;rcases this with rfl|rfl|rfl|rfl|rfl|rfl|rfl|rfl<;>unfold T9
  all_goals
   refine iI ?_
  all_goals
   refine cB _ 300 hC G0F (m0:=[]) bA zO ?_ ?_ ?_
   ·simp [aL,cQ,aI,aP,dom,A,A']
   ·simp [Blk.ids,aI,aP,A,A']
   ·simp
 ·unfold T9;refine iI ?_;exact eR results58
@[simp] theorem asO (z y c:Int) (h0:0<=c) (h1:c<=1) (K:fQ):bl prog G0 58 #[Value.agg #[.int .u64 (di (z) 0),.int .u64 (di (z) 1),.int .u64 (di (z) 2),.int .u64 (di (z) 3),.int .u64 (di (z) 4),.int .u64 (di (z) 5),.int .u64 (di (z) 6),.int .u64 (di (z) 7)],Value.agg #[.int .u64 (di (y) 0),.int .u64 (di (y) 1),.int .u64 (di (y) 2),.int .u64 (di (y) 3),.int .u64 (di (y) 4),.int .u64 (di (y) 5),.int .u64 (di (y) 6),.int .u64 (di (y) 7)],.int .u64 c] K↔K (dg (z+y+c)):=ar G0W ah (X5 z y c h0 h1)

theorem av8 (z:Int) (k:Nat):4294967295 - di z k=di (-z - 1) k:=by
 unfold di;generalize hM:(2:Int)^(32*k)=M;have hp:0<M:=hM▸dM k;exact F6
def acJ (z:Int) (i:Nat):GS :=
 ⟨tsL [(1,.pointer (some ⟨200,0,none⟩)),(2,.pointer (some ⟨208,0,none⟩)),(3,.int .i64 i)],
 hpL G0 [(200,⟨#[.int .u64 (if 0<i then di (-z - 1) 0 else di z 0),.int .u64 (if 1<i then di (-z - 1) 1 else di z 1),.int .u64 (if 2<i then di (-z - 1) 2 else di z 2),.int .u64 (if 3<i then di (-z - 1) 3 else di z 3),
   .int .u64 (if 4<i then di (-z - 1) 4 else di z 4),.int .u64 (if 5<i then di (-z - 1) 5 else di z 5),.int .u64 (if 6<i then di (-z - 1) 6 else di z 6),.int .u64 (if 7<i then di (-z - 1) 7 else di z 7)],.ty 96⟩),
  (208,⟨#[.int .u64 0,.int .u64 0,.int .u64 0,.int .u64 0,.int .u64 0,.int .u64 0,.int .u64 0,.int .u64 0],.ty 96⟩)],300,0⟩
theorem acI (z:Int):Ret prog G0 62 #[dg z] (dg (-z - 1)):=by
 refine aU G0F func62 rfl call62 zS zS (by simp [ntmps62]) ?_;intro C hC bA hY;refine iI ?_;refine fD 8 (acJ z) ?_ ?_ ?_
 ·refine cB _ 300 hC G0F (m0:=[]) bA zO ?_ ?_ ?_
  ·exact lO
  ·simp [Blk.ids,aI,aP]
  ·simp
 ·intro i hi;have:i=0\/i=1\/i=2\/i=3\/i=4\/i=5\/i=6\/i=7:=zO;rcases this with rfl|rfl|rfl|rfl|rfl|rfl|rfl|rfl<;>unfold acJ
  all_goals
   refine iI ?_
  all_goals
   refine cB _ 300 hC G0F (m0:=[]) bA zO ?_ ?_ ?_
   ·exact lO
   ·simp [Blk.ids,aI,aP,av8]
   ·simp
 ·unfold acJ;refine iI ?_;exact eR results62
@[simp] theorem aEt (z:Int) (K:fQ):bl prog G0 62 #[Value.agg #[.int .u64 (di (z) 0),.int .u64 (di (z) 1),.int .u64 (di (z) 2),.int .u64 (di (z) 3),.int .u64 (di (z) 4),.int .u64 (di (z) 5),.int .u64 (di (z) 6),.int .u64 (di (z) 7)]] K↔K (dg (-z - 1)):=ar G0W ah (acI z)

@[simp] theorem at2 (k:Nat):di 0 k=0:=by simp [di]
theorem ZH (a b:Int):Ret prog G0 24 #[wd a,wd b] (.tuple #[wd (a+b),.bool (ng a==ng b&&ng (a+b) != ng a)]):=by
 refine aU G0F func24 rfl call24 zS zS (by simp [ntmps24]) ?_;intro C hC bA hY;cases hb:(ng a==ng b)
 all_goals
  refine cA hb ?_;exact eR (k2 results24 hb)
@[simp] theorem aBW (a b:Int) (K:fQ):bl prog G0 24 #[Value.agg #[.int .u64 (wi (a) 0),.int .u64 (wi (a) 1),.int .u64 (wi (a) 2),.int .u64 (wi (a) 3)],Value.agg #[.int .u64 (wi (b) 0),.int .u64 (wi (b) 1),.int .u64 (wi (b) 2),.int .u64 (wi (b) 3)]] K↔K (.tuple #[wd (a+b),.bool (ng a==ng b&&ng (a+b) != ng a)]):=ar G0W ah (ZH a b)
theorem adL (a b:Int):Ret prog G0 40 #[wd a,wd b] (.tuple #[wd (a - b),.bool (ng a != ng b&&ng (a - b) != ng a)]):=by
 refine aU G0F func40 rfl call40 zS zS (by simp [ntmps40]) ?_;intro C hC bA hY;have e:a+(-b - 1)+1=a - b:=zO;cases hb:(ng a != ng b)
 all_goals
  refine cA (k2 hb e) ?_;exact eR (k3 results40 hb e)
@[simp] theorem aEU (a b:Int) (K:fQ):bl prog G0 40 #[Value.agg #[.int .u64 (wi (a) 0),.int .u64 (wi (a) 1),.int .u64 (wi (a) 2),.int .u64 (wi (a) 3)],Value.agg #[.int .u64 (wi (b) 0),.int .u64 (wi (b) 1),.int .u64 (wi (b) 2),.int .u64 (wi (b) 3)]] K↔K (.tuple #[wd (a - b),.bool (ng a != ng b&&ng (a - b) != ng a)]):=ar G0W ah (adL a b)
@[simp] theorem ayy (z c:Int) (h0:0<=c) (h1:c<=1) (K:fQ):bl prog G0 58 #[Value.agg #[.int .u64 (di (z) 0),.int .u64 (di (z) 1),.int .u64 (di (z) 2),.int .u64 (di (z) 3),.int .u64 (di (z) 4),.int .u64 (di (z) 5),.int .u64 (di (z) 6),.int .u64 (di (z) 7)],.agg #[.int .u64 0,.int .u64 0,.int .u64 0,.int .u64 0,.int .u64 0,.int .u64 0,.int .u64 0,.int .u64 0],.int .u64 c] K↔K (dg (z+c)):=by
 have:=asO z 0 c h0 h1 K;exact Rh
theorem acD (a:Int):Ret prog G0 26 #[wd a] (.tuple #[wd (-a),.bool (ng a&&ng (-a))]):=by
 refine aU G0F func26 rfl call26 zS zS (by simp [ntmps26]) ?_;intro C hC bA hY;have e:-a - 1+1=-a:=zO;cases hb:ng a
 all_goals
  refine cA (k2 hb e) ?_;exact eR (k3 results26 hb e)
@[simp] theorem aEs (a:Int) (K:fQ):bl prog G0 26 #[Value.agg #[.int .u64 (wi (a) 0),.int .u64 (wi (a) 1),.int .u64 (wi (a) 2),.int .u64 (wi (a) 3)]] K↔K (.tuple #[wd (-a),.bool (ng a&&ng (-a))]):=ar G0W ah (acD a)
abbrev dG := @Int.not_lt

theorem anA {n : Int} (h : i64 n) (hn : n < 0) : wi n 1 = 18446744073709551615 /\ wi n 2 = 18446744073709551615 /\ wi n 3 = 18446744073709551615 := by
  unfold i64 at h; simp only [wi]; omega
theorem anB {n : Int} (h : i64 n) (hn : ¬ n < 0) : wi n 1 = 0 /\ wi n 2 = 0 /\ wi n 3 = 0 := by
  unfold i64 at h; simp only [wi]; omega
theorem atA (n : Int) : n % 18446744073709551616 = wi n 0 := by simp [wi]
@[simp] theorem ct (k : Nat) : wi 0 k = 0 := by simp [wi]

def ag5 (n : Int) (i : Nat) : GS :=
  ⟨tsL [(0, .int .i64 n), (2, .pointer (some ⟨200, 0, none⟩)), (3, .pointer (some ⟨232, 0, none⟩)), (4, .int .i64 (i + 1 : Nat))],
   hpL G0 [(200, ⟨#[.int .u64 0, .int .u64 0, .int .u64 0, .int .u64 0], .ty 30⟩),
     (232, ⟨#[.int .u64 (wi n 0), .int .u64 (if 0 < i then 18446744073709551615 else 0), .int .u64 (if 1 < i then 18446744073709551615 else 0), .int .u64 (if 2 < i then 18446744073709551615 else 0)], .ty 30⟩)], 300, 0⟩
theorem ag4 (n : Int) (h : i64 n) : Ret prog G0 33 #[.int .i64 n] (wd n) := by
  refine aU G0F func33 rfl call33 zS zS (by simp [ntmps33]) ?_;intro C hC bA hY
  repeat' (first | refine I6 ?_ | (refine iy ?_; intro Q hQ hP; simp [hC, hY, atA]; refine dq hQ ?_; clear hQ hP Q) | (refine gwC ?_ ?_ <;> (intro hb; try (cases hb; done))))
  refine fD (if n < 0 then 3 else 0) (ag5 n) ?_ ?_ ?_
  · refine cB _ 300 hC G0F (m0 := []) bA zO ?_ ?_ ?_
    · simp [aL, cQ, aI, aP, dom]
    · simp [Blk.ids, aI, aP]
    · simp
  · intro i hi
    by_cases hn : n < 0
    · rw [ag hn] at hi
      have : i = 0 \/ i = 1 \/ i = 2 := zO;rcases this with rfl | rfl | rfl <;> unfold ag5
      all_goals
        repeat' (first | refine I6 ?_ | (refine iy ?_; intro Q hQ hP; simp [hC, hY, hn]; refine dq hQ ?_; clear hQ hP Q) | (refine gwC ?_ ?_ <;> (intro hb; try (cases hb; done))))
      all_goals
        refine cB _ 300 hC G0F (m0 := []) bA zO ?_ ?_ ?_
        · simp [aL, cQ, aI, aP, dom]
        · simp [Blk.ids, aI, aP]
        · simp
    · rw [ae hn] at hi; omega
  · by_cases hn : n < 0
    · rw [ag hn]
      have e := anA h hn;unfold ag5
      repeat' (first | refine I6 ?_ | (refine iy ?_; intro Q hQ hP; simp [hC, hY]; refine dq hQ ?_; clear hQ hP Q) | (refine gwC ?_ ?_ <;> (intro hb; try (cases hb; done))))
      exact eR (k2 results33 e)
    · rw [ae hn]
      have e := anB h hn;unfold ag5
      repeat' (first | refine I6 ?_ | (refine iy ?_; intro Q hQ hP; simp [hC, hY, hn]; refine dq hQ ?_; clear hQ hP Q) | (refine gwC ?_ ?_ <;> (intro hb; try (cases hb; done))))
      exact eR (k2 results33 e)
@[simp] theorem of2 (n : Int) (h : i64 n) (K : Value -> Prop) : bl prog G0 33 #[.int .i64 n] K ↔ K (wd n) := ar G0W ah (ag4 n h)

theorem abU (z : Int) : Ret prog G0 61 #[wd z] (.tuple #[.int .i64 (if i64 (sz z) then sz z else 0), .bool (decide (i64 (sz z)))]) := by
  refine aU G0F func61 rfl call61 zS zS (by simp [ntmps61]) ?_;intro C hC bA hY;have h := NX (wi z 0)
  repeat' (first | refine I6 ?_ | (refine iy ?_; intro Q hQ hP; simp [hC, hY, h]; refine dq hQ ?_; clear hQ hP Q) | (refine gwC ?_ ?_ <;> (intro hb; try (cases hb; done))))
  all_goals
    refine ⟨.inr trivial, ?_⟩;rw [wne] at hb;simp at hb;rw [abV] at hb;simp [results61, hb]
  exact VI z hb
@[simp] theorem ayV (z : Int) (K : Value -> Prop) : bl prog G0 61 #[Value.agg #[.int .u64 (wi (z) 0), .int .u64 (wi (z) 1), .int .u64 (wi (z) 2), .int .u64 (wi (z) 3)]] K ↔ K (.tuple #[.int .i64 (if i64 (sz z) then sz z else 0), .bool (decide (i64 (sz z)))]) := ar G0W ah (abU z)

theorem UF (z : Int) : sz z = wi z 0 + 18446744073709551616 * wi z 1 + 340282366920938463463374607431768211456 * wi z 2 + 6277101735386680763835789423207666416102355444464034512896 * wi z 3 - (if ng z then 115792089237316195423570985008687907853269984665640564039457584007913129639936 else 0) := by
  have h1 := anE z;have := dJ z 0; have := eJ z 0; have := dJ z 1; have := eJ z 1; have := dJ z 2; have := eJ z 2; have := dJ z 3; have := eJ z 3;simp only [ng, db];unfold sz;rw [fe];split <;> split <;> omega
theorem mq (z : Int) : ng z = decide (sz z < 0) := by
  have h1 := UF z;have := dJ z 0; have := eJ z 0; have := dJ z 1; have := eJ z 1; have := dJ z 2; have := eJ z 2; have := dJ z 3; have := eJ z 3;rw [g6];simp only [ng, db] at h1 |-;split at h1 <;> omega
def eqW (a b : Int) : Nat := if wi a 3 = wi b 3 then if wi a 2 = wi b 2 then if wi a 1 = wi b 1 then if wi a 0 = wi b 0 then 4 else 3 else 2 else 1 else 0
def Z2 (a b : Int) (i : Nat) : GS :=
  ⟨tsL [(2, .pointer (some ⟨200, 0, none⟩)), (3, .pointer (some ⟨208, 0, none⟩)), (5, .int .i64 (3 - i))],
   hpL G0 [(200, ⟨#[.int .u64 (wi a 0), .int .u64 (wi a 1), .int .u64 (wi a 2), .int .u64 (wi a 3)], .ty 30⟩), (208, ⟨#[.int .u64 (wi b 0), .int .u64 (wi b 1), .int .u64 (wi b 2), .int .u64 (wi b 3)], .ty 30⟩)], 300, 0⟩
theorem Z1 (a b : Int) : Ret prog G0 28 #[wd a, wd b] (.int .i64 (dv (sz a) (sz b))) := by
  refine aU G0F func28 rfl call28 zS zS (by simp [ntmps28]) ?_;intro C hC bA hY
  repeat' (first | refine I6 ?_ | (refine iy ?_; intro Q hQ hP; simp [hC, hY]; refine dq hQ ?_; clear hQ hP Q) | (refine gwC ?_ ?_ <;> (intro hb; try (cases hb; done))))
  · rename_i hx
    refine ⟨.inr trivial, ?_⟩;rw [mq, mq] at hx;rw [mq] at hb;simp at hb hx;have : sz a < sz b := zO;simp [results28, dv, this]
  · rename_i hx
    refine ⟨.inr trivial, ?_⟩;rw [mq, mq] at hx;rw [mq] at hb;simp at hb hx;have h1 : ¬ sz a < sz b := zO;have h2 : ¬ sz a = sz b := zO;simp [results28, dv, h1, h2]
  · have hs : ng a = ng b := by simpa using hb
    have e1 := UF a;have e2 := UF b;rw [hs] at e1;have := dJ a 0; have := eJ a 0; have := dJ a 1; have := eJ a 1; have := dJ a 2; have := eJ a 2; have := dJ a 3; have := eJ a 3;have := dJ b 0; have := eJ b 0; have := dJ b 1; have := eJ b 1; have := dJ b 2; have := eJ b 2; have := dJ b 3; have := eJ b 3;refine fD (eqW a b) (Z2 a b) ?_ ?_ ?_
    · refine cB _ 300 hC G0F (m0 := []) bA zO ?_ ?_ ?_
      · simp [aL, cQ, aI, aP, dom]
      · simp [Blk.ids, aI, aP]
      · simp
    · intro i hi
      have : i = 0 /\ wi a 3 = wi b 3 \/ i = 1 /\ wi a 2 = wi b 2 \/ i = 2 /\ wi a 1 = wi b 1 \/ i = 3 /\ wi a 0 = wi b 0 := by unfold eqW at hi; (repeat' split at hi) <;> omega
      rcases this with ⟨rfl, h⟩ | ⟨rfl, h⟩ | ⟨rfl, h⟩ | ⟨rfl, h⟩ <;> unfold Z2
      all_goals
        repeat' (first | refine I6 ?_ | (refine iy ?_; intro Q hQ hP; simp [hC, hY, h]; refine dq hQ ?_; clear hQ hP Q) | (refine gwC ?_ ?_ <;> (intro hb; try (cases hb; done))))
      all_goals
        refine cB _ 300 hC G0F (m0 := []) bA zO ?_ ?_ ?_
        · simp [aL, cQ, aI, aP, dom, h]
        · simp [Blk.ids, aI, aP, h]
        · simp
    · unfold eqW
      (repeat' split) <;> unfold Z2
      · rename_i q3 q2 q1 q0
        repeat' (first | refine I6 ?_ | (refine iy ?_; intro Q hQ hP; simp [hC, hY]; refine dq hQ ?_; clear hQ hP Q) | (refine gwC ?_ ?_ <;> (intro hb; try (cases hb; done))))
        refine ⟨.inr trivial, ?_⟩;have : sz a = sz b := zO;simp [results28, dv, this]
      all_goals
        rename_i h;rcases Int.lt_or_gt_of_ne h with dp | dp
      all_goals
        have Ei := dG.2 (bW dp)
        repeat' (first | refine I6 ?_ | (refine iy ?_; intro Q hQ hP; simp [hC, hY, dp, Ei]; refine dq hQ ?_; clear hQ hP Q) | (refine gwC ?_ ?_ <;> (intro hb; try (cases hb; done))))
      all_goals
        refine ⟨.inr trivial, ?_⟩
        first
          | (have hc : sz a < sz b := zO
             simp [results28, dv, hc]; done)
          | (have hc : ¬ sz a < sz b := zO
             have hd : ¬ sz a = sz b := zO;simp [results28, dv, hc, hd]; done)
@[simp] theorem av4 (a b : Int) (K : Value -> Prop) : bl prog G0 28 #[Value.agg #[.int .u64 (wi (a) 0), .int .u64 (wi (a) 1), .int .u64 (wi (a) 2), .int .u64 (wi (a) 3)], Value.agg #[.int .u64 (wi (b) 0), .int .u64 (wi (b) 1), .int .u64 (wi (b) 2), .int .u64 (wi (b) 3)]] K ↔ K (.int .i64 (dv (sz a) (sz b))) := ar G0W ah (Z1 a b)
@[simp] theorem azA (a : Int) (K : Value -> Prop) : bl prog G0 28 #[Value.agg #[.int .u64 (wi (a) 0), .int .u64 (wi (a) 1), .int .u64 (wi (a) 2), .int .u64 (wi (a) 3)], .agg #[.int .u64 0, .int .u64 0, .int .u64 0, .int .u64 0]] K ↔ K (.int .i64 (dv (sz a) 0)) := by
  have := av4 a 0 K;have e : sz 0 = 0 := zD;rw [e] at this;exact Rh
theorem YF (a : Int) : Ret prog G0 133 #[wd a] (.int .i64 (dv (sz a) 0)) := by
  refine aU G0F func133 rfl call133 zS zS (by simp [ntmps133]) ?_;intro C hC bA hY
  repeat' (first | refine I6 ?_ | (refine iy ?_; intro Q hQ hP; simp [hC, hY]; refine dq hQ ?_; clear hQ hP Q) | (refine gwC ?_ ?_ <;> (intro hb; try (cases hb; done))))
  exact eR results133
@[simp] theorem aBg (a : Int) (K : Value -> Prop) : bl prog G0 133 #[Value.agg #[.int .u64 (wi (a) 0), .int .u64 (wi (a) 1), .int .u64 (wi (a) 2), .int .u64 (wi (a) 3)]] K ↔ K (.int .i64 (dv (sz a) 0)) := ar G0W ah (YF a)
end Go.Gy
namespace Go.Gy
open Go Go.RowKit
theorem sc {p:Prop} (h:p:=by simp [fa];omega):p:=h
theorem nu {p:Prop} (h:p:=by rw [iN,cx]):p:=h
theorem nJ {p:Prop} (h:p:=by rw [<-cx];congr 1;omega):p:=h
theorem pP {p:Prop} (h:p:=by
 apply rh;simp [fa,NU,NT]):p:=h
theorem He {p:Prop} (h:p:=by
 have:P*a*(c+Q*b)=P*a*c+P*Q*(a*b):=by
  rw [dH];congr 1;rw [bD P a,bD P Q];congr 1;rw [<-bD,<-bD,bX a Q]
 rw [this,dH];omega):p:=h
theorem HD {p:Prop} (h:p:=by
 by_cases e:j=i+k
 ·subst e;simp
 ·rw [ae e];by_cases h:i<=j/\j<i+k
  ·rw [ag h,ag zO]
  ·rw [ae h,ae zO]):p:=h
abbrev NU := @Array.toList_ofFn
abbrev NT := @List.ofFn_succ
abbrev eF := @Int.add_mul
abbrev fF := @Nat.mul_zero
abbrev rS := @Int.pow_zero
abbrev v9 := @Int.mul_zero
abbrev mO := @Int.add_zero
abbrev bX := @Int.mul_comm
abbrev rz := @Int.mul_left_comm
abbrev vD := @Int.mul_lt_mul_of_pos_right
abbrev aJ := Nat -> Int

def fa (n:Nat) (k:IntKind) (f:aJ):Array Value:=Array.ofFn λj:Fin n=>.int k (f j)
@[simp] theorem aug (n:Nat) (k:IntKind) (f:aJ):(fa n k f).size=n:=by simp [fa]
theorem mw (n:Nat) (k:IntKind) (f:aJ) (i:Nat) (h:i<n):(fa n k f)[i]? = some (.int k (f i)):=by simp [fa,h]
@[simp] theorem afD (n:Nat) (k:IntKind) (f:aJ) (i:Nat) (h:i<(fa n k f).size):(fa n k f)[i]=.int k (f i):=by simp [fa]
theorem uF {n:Nat} {k:IntKind} {f:aJ} {x:Value} (h:x∈fa n k f):∃ m,x=.int k m:=by
 simp only [fa,Array.mem_ofFn] at h;obtain ⟨i,rfl⟩:=h;exact ⟨_,rfl⟩
theorem qJ (n:Nat) (k:IntKind) (f:aJ) (i:Nat) (v:Int):(fa n k f).setIfInBounds i (.int k v)=fa n k (upd f i v):=by
 apply gI;intro j;rw [gJ];by_cases hj:j<n
 ·rw [mw _ _ _ _ hj,mw _ _ _ _ hj];by_cases e:i=j
  ·subst e;simp [hj,upd]
  ·simp [e,upd,Ne.symm e]
 ·have h1:(fa n k f)[j]? = none:=by simp [fa];omega
  have h2:(fa n k (upd f i v))[j]? = none:=sc;rw [h1,h2];split<;>simp_all
@[simp] theorem auf (n:Nat) (k:IntKind) (f:aJ):(fa n k f).all qR 0 n=true:=by
 have:(fa n k f).all qR=true:=dt.2 λx hx=>by obtain ⟨m,rfl⟩:=uF hx;rfl
 exact Rh
@[simp] theorem aue (n:Nat) (k:IntKind) (f:aJ):(fa n k f).all bU 0 n=true:=by
 have:(fa n k f).all bU=true:=dt.2 λx hx=>by obtain ⟨m,rfl⟩:=uF hx;rfl
 exact Rh
theorem aM (l:List Value) (T:TypeId) (D:iH):(Blk.mk l.toArray T).ids D↔∀ x∈l,aI D x:=by simp [Blk.ids]
theorem lv (n:Nat) (k:IntKind) (f:aJ) (T:TypeId) (D:iH):(Blk.mk (fa n k f) T).ids D:=by
 intro x hx;obtain ⟨m,rfl⟩:=uF hx
 trivial
theorem HP (k:IntKind) (f:aJ):fa 8 k f=#[.int k (f 0),.int k (f 1),.int k (f 2),.int k (f 3),.int k (f 4),.int k (f 5),.int k (f 6),.int k (f 7)]:=by
 exact pP
theorem vn (k:IntKind) (f:aJ):fa 4 k f=#[.int k (f 0),.int k (f 1),.int k (f 2),.int k (f 3)]:=by
 exact pP
theorem aqa (k:IntKind) (f:aJ):fa 16 k f=#[.int k (f 0),.int k (f 1),.int k (f 2),.int k (f 3),.int k (f 4),.int k (f 5),.int k (f 6),.int k (f 7),.int k (f 8),.int k (f 9),.int k (f 10),.int k (f 11),.int k (f 12),.int k (f 13),.int k (f 14),.int k (f 15)]:=by
 exact pP

theorem As:∀ (l:List Value) (c:ca) (o j:Nat),(gv c o l)[j]? = if o<=j/\j<o+l.length/\j<c.size then l[j - o]? else c[j]?
 | [],c,o,j=>by simp [gv];omega
 | v::l,c,o,j=>by
  rw [gv,As l,gJ,Array.size_setIfInBounds];by_cases e:o=j
  ·subst e;rw [ae zO,ag rfl];by_cases h:o<c.size
   ·simp [h]
   ·simp [h]
  ·by_cases h:o+1<=j/\j<o+1+l.length/\j<c.size
   ·rw [ag h,ag aB];have:j - o=(j - (o+1))+1:=zO;rw [this,rO]
   ·rw [ae h,ae e,ae (by simp;omega)]
@[simp] theorem ajJ (c:ca) (n:Nat) (k:IntKind) (g:aJ) (h:c.size=n):gv c 0 (fa n k g).toList=fa n k g:=by
 apply gI;intro j;rw [As];by_cases hj:j<n
 ·rw [ag aB];simp [hj,fa]
 ·rw [ae aB];have h1:c[j]? = none:=aB;have h2:(fa n k g)[j]? = none:=sc;rw [h1,h2]
@[simp] theorem akA (n:Nat) (k:IntKind) (f:aJ):(fa n k f).extract 0 n=fa n k f:=by
 have:n=(fa n k f).size:=zS
 conv=>lhs;rw [this]
 simp

def jP (A B:Int) (i:Nat):Int:=(A%2^(32*i))*B
def ue (A B:Int) (i k:Nat):Int:=(jP A B i%2^(32*(i+k))+2^(32*i)*di A i*(B%2^(32*k))) / 2^(32*(i+k))
def Cf (A B:Int) (i k j:Nat):Int:=if i<=j/\j<i+k then di (jP A B (i+1)) j else di (jP A B i) j
theorem zg (A B:Int) (i:Nat):jP A B (i+1)=jP A B i+2^(32*i)*di A i*B:=by
 unfold jP di;rw [uM,mh A _ _ (dM i) zO,eF]
theorem X3 (A B:Int) (i:Nat):ue A B i 0=0:=by
 unfold ue;have h1:=bQ (jP A B i) (dM (i+0));have h2:=bM (jP A B i) (b:=2^(32*(i+0))) (by have:=dM (i+0);omega);simp only [fF,rS,rM,v9,mO];exact dU h2 h1
theorem Nh (A B:Int) (i k:Nat):0<=ue A B i k/\ue A B i k<4294967296:=by
 unfold ue;have hM:(2:Int)^(32*(i+k))=2^(32*i)*2^(32*k):=nu;have p1:=dM i;have p2:=dM k;have p3:=dM (i+k);generalize hz:jP A B i=z;have h1:=bQ z p3;have h2:=bM z (b:=2^(32*(i+k))) zO;have h3:=bQ B p2;have h4:=bM B (b:=2^(32*k)) zO;have h5:=AE A i;have h6:=AF A i;have h7:0<=2^(32*i)*di A i*(B%2^(32*k)):=bK (bK zO h5) h4
 have h8:2^(32*i)*di A i*(B%2^(32*k))<=2^(32*i)*4294967295*2^(32*k) :=
  cU (fg zO zO) zO h4 (bK zO zO)
 have h9:(2:Int)^(32*i)*4294967295*2^(32*k)=4294967295*2^(32*(i+k)):=by
  rw [hM,bX (2^(32*i)) 4294967295,bD]
 refine ⟨gN zO zO,rV p3 zO⟩
theorem X2 (A B:Int) (i k:Nat):(di (jP A B i) (i+k)+di A i*di B k+ue A B i k) / 4294967296=ue A B i (k+1):=by
 have hM:(2:Int)^(32*(i+k))=2^(32*i)*2^(32*k):=nu;have p2:=dM k;have p3:=dM (i+k);unfold ue;rw [(zO:i+(k+1)=(i+k)+1),uM,uM,mh _ _ _ p3 zO,mh B _ _ p2 zO];generalize hz:jP A B i=z;unfold di;generalize hD:(2:Int)^(32*(i+k))=M at *
 have e:z%M+M*(z / M%4294967296)+2^(32*i)*(A / 2^(32*i)%4294967296)*(B%2^(32*k)+2^(32*k)*(B / 2^(32*k)%4294967296)) =
   (z%M+2^(32*i)*(A / 2^(32*i)%4294967296)*(B%2^(32*k)))+M*(z / M%4294967296+A / 2^(32*i)%4294967296*(B / 2^(32*k)%4294967296)):=by
  rw [hM];generalize (2:Int)^(32*i)=P;generalize (2:Int)^(32*k)=Q;generalize A / P%4294967296=a;generalize B / Q%4294967296=b;generalize B%Q=c;generalize z%(P*Q)=u;generalize z / (P*Q)%4294967296=v;exact He
 rw [e,<-jr (bW p3),g7 _ _ zO];congr 1;omega
theorem ayw (A B:Int) (i k:Nat):(di (jP A B i) (i+k)+di A i*di B k+ue A B i k)%4294967296=di (jP A B (i+1)) (i+k):=by
 have hM:(2:Int)^(32*(i+k))=2^(32*i)*2^(32*k):=nu;have p3:=dM (i+k);rw [zg];unfold ue;generalize hz:jP A B i=z;unfold di;generalize hD:(2:Int)^(32*(i+k))=M at *
 have h1:=eY z M;have h2:=eY B (2^(32*k));have h3:=eY (B / 2^(32*k)) 4294967296
 have e:z+2^(32*i)*(A / 2^(32*i)%4294967296)*B=(z%M+2^(32*i)*(A / 2^(32*i)%4294967296)*(B%2^(32*k))) +
   M*(z / M+A / 2^(32*i)%4294967296*(B / 2^(32*k)%4294967296)+4294967296*(A / 2^(32*i)%4294967296*(B / 2^(32*k) / 4294967296))):=by
  have hB:B=B%2^(32*k)+2^(32*k)*(B / 2^(32*k)%4294967296+4294967296*(B / 2^(32*k) / 4294967296)):=by rw [h3];omega
  generalize B / 2^(32*k)%4294967296=b at *
  generalize B / 2^(32*k) / 4294967296=h at *
  generalize B%2^(32*k)=c at *
  rw [hM];rw [hM] at h1;generalize (2:Int)^(32*i)=P at *
  generalize (2:Int)^(32*k)=Q at *
  generalize A / P%4294967296=a;rw [hB]
  have:P*a*(c+Q*(b+4294967296*h))=P*a*c+P*Q*(a*b)+P*Q*(4294967296*(a*h)):=by
   rw [dH,dH Q,dH]
   have e1:P*a*(Q*b)=P*Q*(a*b):=by
    rw [bD P a,bD P Q];congr 1;rw [<-bD,<-bD,bX a Q]
   have e2:P*a*(Q*(4294967296*h))=P*Q*(4294967296*(a*h)):=by
    rw [bD P a,bD P Q];congr 1;rw [rz a Q];congr 1;rw [rz]
   rw [e1,e2];omega
  rw [this,dH,dH];omega
 rw [e,g7 _ _ zO];omega
theorem Wc (A B:Int) (i:Nat) (h0:0<=B) (h1:B<2^(32*8)):0<=jP A B i/\jP A B i<2^(32*(i+8)):=by
 have p1:=dM i;have h2:=bM A (b:=2^(32*i)) zO;have h3:=bQ A p1;unfold jP;refine ⟨bK h2 h0,?_⟩;rw [iN,cx];generalize (2:Int)^(32*i)=P at *
 generalize (2:Int)^(32*8)=Q at *
 have h4:A%P*B<=A%P*Q:=fg zO h2;have h5:A%P*Q<P*Q:=vD h3 zO;omega
theorem adg (A B:Int) (i:Nat) (h0:0<=B) (h1:B<2^(32*8)):ue A B i 8=di (jP A B (i+1)) (i+8):=by
 have hb:=Nh A B i 8;have hz:=Wc A B i h0 h1;unfold ue at *
 rw [bP hz.1 hz.2,bP h0 h1,<-zg] at *
 unfold di;omega
theorem Wb (A B:Int) (i j:Nat) (h0:0<=B) (h1:B<2^(32*8)) (hj:i+8<=j):di (jP A B i) j=0:=by
 have hz:=Wc A B i h0 h1;have e:(2:Int)^(32*j)=2^(32*(i+8))*2^(32*(j - (i+8))):=nJ;have p:=dM (j - (i+8));unfold di;rw [dU hz.1]
 ·rfl
 ·rw [e];have:(2:Int)^(32*(i+8))*1<=2^(32*(i+8))*2^(32*(j - (i+8))):=fg zO (by have:=dM (i+8);omega);omega
theorem nW {n:Nat} {k:IntKind} {f g:aJ} (h:∀ j,j<n->f j=g j):fa n k f=fa n k g:=by
 unfold fa;congr 1;funext j;rw [h j j.2]
theorem adf (A B:Int) (i j:Nat) (hj:j<i):di (jP A B (i+1)) j=di (jP A B i) j:=by
 rw [zg];unfold di
 have e:(2:Int)^(32*i)=2^(32*j)*(4294967296*2^(32*(i - j - 1))):=by
  rw [show (4294967296:Int)=2^32 by rfl,<-cx,<-cx];congr 1;omega
 rw [e,bD,bD (2^(32*j)),bD 4294967296,g7 _ _ (by have:=dM j;omega)];omega
theorem X9 (A B:Int) (i k:Nat):∀ j,upd (Cf A B i k) (i+k) (di (jP A B (i+1)) (i+k)) j=Cf A B i (k+1) j:=λj=>by
 unfold upd Cf;exact HD
theorem adb (A B:Int) (i:Nat) (h0:0<=B) (h1:B<2^(32*8)):∀ j,upd (Cf A B i 8) (i+8) (ue A B i 8) j=di (jP A B (i+1)) j:=λj=>by
 unfold upd Cf;by_cases e:j=i+8
 ·subst e;rw [ag rfl,adg A B i h0 h1]
 ·rw [ae e];by_cases h:i<=j/\j<i+8
  ·rw [ag h]
  ·rw [ae h];by_cases hj:j<i
   ·exact (adf A B i j hj).symm
   ·rw [Wb A B i j h0 h1 zO,Wb A B (i+1) j h0 h1 zO]
@[simp] theorem ave (A B:Int) (i k:Nat):Cf A B i k (i+k)=di (jP A B i) (i+k):=by unfold Cf;rw [ae zO]
theorem ajB (A B:Int) (i k:Nat):0<=di (jP A B i) (i+k)+di A i*di B k+ue A B i k/\di (jP A B i) (i+k)+di A i*di B k+ue A B i k<18446744073709551616:=by
 have h1:=AE (jP A B i) (i+k);have h2:=AF (jP A B i) (i+k);have h3:=AE A i;have h4:=AF A i;have h5:=AE B k;have h6:=AF B k;have h7:=Nh A B i k;have h8:0<=di A i*di B k:=bK h3 h5;have h9:di A i*di B k<=4294967295*4294967295:=cU zO zO h5 zO;omega
theorem ayz (A B:Int) (i k:Nat):((di (jP A B i) (i+k)+di A i*di B k+ue A B i k)%18446744073709551616).tmod 4294967296=di (jP A B (i+1)) (i+k):=by
 have h:=ajB A B i k;rw [bP h.1 h.2,rv h.1,ayw]
theorem ayx (A B:Int) (i k:Nat):((di (jP A B i) (i+k)+di A i*di B k+ue A B i k)%18446744073709551616).tdiv 4294967296%18446744073709551616=ue A B i (k+1):=by
 have h:=ajB A B i k;have hb:=Nh A B i (k+1);rw [bP h.1 h.2,hZ h.1,X2];omega
theorem xo {p:Prop} (h:p:=by rw [hx];simp [fP]):p:=h
theorem xj {p:Prop} (h:p:=by rw [hy];simp [fP]):p:=h
theorem xk {p:Prop} (h:p:=by simp only [maxLen] at lY;omega):p:=h
theorem lC {p:Prop} (h:p:=by rw [ho];intro c;simp):p:=h
theorem aaV {p:Prop} (h:p:=by exact setRow_other W (r k) q _ (λe=>hnq _ (br.2 rfl) e.symm)):p:=h
theorem xA {p:Prop} (h:p:=by simp [ren,aW,aw,aF,cY]):p:=h
theorem gb {p:Prop} (h:p:=by simp [aL,cQ,aI,aP,eo,ak]):p:=h
theorem sF {p:Prop} (h:p:=by show W.heap.size<=(W.heap.push _).size;simp):p:=h
theorem yu {p:Prop} (h:p:=by
 have:=(h.rel tx).resolve_left xo;rw [hx] at this;exact this.1):p:=h
theorem Fj {p:Prop} (h:p:=by
 have:=(h.rel ty).resolve_left xj;rw [hy] at this;exact this.1):p:=h
theorem Ht {p:Prop} (h:p:=by
 simp only [br] at hp1;subst hp1;show W.heap.size<=upd r nk W.heap.size nk;rw [cY];exact aA _):p:=h
abbrev rK := @Nat.add_mul
abbrev vG := @Nat.mul_le_mul_right
abbrev Cs := @List.length_take
abbrev fI := @List.getElem?_take
abbrev mL := @Go.Addr.add_lit
abbrev mH := @List.mem_of_mem_take
abbrev mJ := @List.mem_of_mem_drop
section
variable {P:Program} {G:Hp} {V:XV}
variable {C:Ctx} {n:Nat} {d:List Deferred} {ro:Option Nat} {s:GS} {K:l6} {yc:Nat}
theorem qW (Wg:og) {ops:Array Oper} {base:Nat} {pn:List FuncId} {Q:Exit->Act->World->Prop} {Kn:(Nat->Value)->Hp->Nat->Prop} {Kp:fQ} {hp0:Hp} {jK:fp} {l0:og} (eg:c7 C.G) (hR:∀ y,C.Y=some y->ux P C y) (hb:100<=base):∀ (l:og) (k:Nat) (ts:fp) (hp:Hp) (tr:Tr) (yc:Nat) (wr yd:Bool) (r:dR) (a:Act) (W:World),
  (∀ o∈l,(((∀ dd,o.dst=some dd->dd<n)/\∀ c,o.op≠.defer c)/\unC P o)/\o∈l0)->(∀ t,(∀ o∈l0,o.dst≠some t)->ts t=jK t)->RI C n d r ts hp yc a W->(∀ x,base+8*k<=x->hp x=none)->(wr=false->∀ k b,hp0 k=some b->hp k=some b) ->
  (∀ ts hp yc r a W,Kn ts hp yc->RI C n d r ts hp yc a W->(∀ x,base+8*(k+l.length)<=x->hp x=none)->(∀ t,(∀ o∈l0,o.dst≠some t)->ts t=jK t)->wpListIn (Fw P ro) 0 P ops Q Wg a W) ->
  (∀ pv ts hp yc r a W,Kp pv->(∀ k b,hp0 k=some b->hp k=some b)->(∀ t,(∀ o∈l0,o.dst≠some t)->ts t=jK t)->RI C n d r ts hp yc a W->Q (.panic [{ v:=pv,recovered:=false }]) a W) ->
  ph P C.G ⟨C.Y,pn,false⟩ ops base (λts hp _ yc=>Kn ts hp yc) (λpv _=>Kp pv) k l ts hp tr yc wr yd->wpListIn (Fw P ro) 0 P ops Q (l++Wg) a W
 | [],k,ts,hp,tr,yc,wr,yd,r,a,W,_,Ah,hi,hn,_,hQ,_,h=>hQ ts hp yc r a W h hi (by simpa using hn) Ah
 | o::l,k,ts,hp,tr,yc,wr,yd,r,a,W,hd,Ah,hi,hn,hs0,hQ,xu,h=>by
  have hlen:k+(o::l).length=(k+1)+l.length:=aB;rw [hlen] at hQ;refine wpListIn_step λK hK=>?_;simp only [ph] at h
  cases hw:gp ops o ts with
  | none=>rw [hw] at h;exact h.elim
  | some b =>
   rw [hw] at h;rw [mB hi.rel hw]
   cases b with
   | true =>
    simp only at h;simp only [aV];obtain ⟨e,h1,hs,hyd,h3⟩:=ub eg hi.glob h
    have HU:(wr||!e.ws.isEmpty)=false->∀ k b,hp0 k=some b->bH hp (e.ws++e.ns) k=some b:=λCS k' b jR=>by
     exact Hc
    refine VQ eg hR o e ts hp yc r a W 0 _ _ hi (hd o zS).1.1 h1 (λx hx=>(hs.ws x hx).2) (λx hx=>?_) (λr' a' W' oz cS=>hK _ _ ?_) (λpv W' Bw oz cS=>?_)
    ·have:=hs.ns x hx;exact ⟨hn x zO,zO⟩
    ·rw [oz] at h3;refine qW Wg eg hR hb l (k+1) _ _ _ _ _ _ r' a' W' (λo ho=>hd o (aD _ ho)) (λt ht=>(m8 (ht o (hd o zS).2)).trans (Ah t ht)) cS (λx hx=>?_) HU hQ xu h3;exact yp
    ·exact Eu
   | false =>
    simp only at h;simp only [kP,cw];exact ⟨M8 (Y:=none) o ts r _ a W hi.rel ⟨h.1,(hd o zS).1.2⟩,hK _ _ (qW Wg eg hR hb l (k+1) _ _ _ _ _ _ r _ W (λo ho=>hd o (aD _ ho)) (λt ht=>(m8 (ht o (hd o zS).2)).trans (Ah t ht)) (hi.put_undef (hd o zS).1.1.1) (λx hx=>hn x zO) hs0 hQ xu h.2)⟩

theorem CY {o:Oper} {a:Act} {W:World} {R Rp:Value->World->Prop} {x y:Operand} {t e:TypeId} {i:TypeInfo} {z:Value} {g sl cap g2 au m m':Nat} {cur:ca} {nw:List Value}
  (ho:o.op=.call { callee:=.builtin .append,args:=#[x,y],argTypes:=#[t,t] }) (ht:P.underlying t=some (.slice e)) (hi:P.info? e=some i) (hz:i.zero=some z)
  (hx:a.eval x=.slice (some ⟨g,0,none⟩) sl cap) (hg:W.heap[g]? = some (.cells cur e (0,0))) (hy:a.eval y=.slice (some ⟨g2,au,none⟩) m m') (hl:nw.length=m*i.size) (hn:∀ j u,nw[j]? = some u->W.cell? ((⟨g2,au,none⟩:Addr).add j)=some u)
  (hc:cap*i.size<=cur.size) (MQ:sl<=cap) (lY:sl+m<=maxLen) (oL:(sl+m)*i.bytes<=140737488355328) (h1:∀ u∈nw,u.oneCell'=true)
  (room:sl+m<=cap->R (.slice (some ⟨g,0,none⟩) (sl+m) cap) (W.setRow g (cur.toList.take (sl*i.size)++nw++cur.toList.drop (sl*i.size+nw.length)).toArray))
  (grow:cap<sl+m->∀ cM,sl+m<=cM->R (.slice (some ⟨W.heap.size,0,none⟩) (sl+m) cM) (W.drew.alloc (.cells ((cur.toList.take (sl*i.size)).toArray++nw.toArray++Builtin.zeroCells z.cells (cM - (sl+m))) e))):tG P o a W R Rp:=by
 unfold tG;by_cases hr:sl+m<=cap
 ·have eI:sl*i.size+nw.length<=cur.size:=by
   rw [hl,<-rK];exact ju (vG _ hr) hc
  have h:=run_append_room (P:=P) W t o.type e i ht hi g sl cap cur hg ⟨g2,au,none⟩ m m' _ hl hn h1 hr eI;simp only [execOp,ho,resolve,aX,cK,bJ,invoke,builtin,gH,bI,ft,hx,hy,h];exact room hr
 ·have DV:(cur.toList.take (sl*i.size)).length=sl*i.size:=by
   have:=vG i.size MQ;simp [Cs];omega
  have hold:∀ j u,(cur.toList.take (sl*i.size))[j]? = some u->W.cell? ((⟨g,0,none⟩:Addr).add j)=some u:=λj u hj=>by
   rw [fI] at hj;split at hj
   ·rw [mL];simp only [World.cell?,hg,cD];simpa using hj
   ·cases hj
  have h:=run_append_grow (P:=P) W t o.type e i z ht hi hz ⟨g,0,none⟩ sl cap _ DV hold ⟨g2,au,none⟩ m m' _ hl hn zO xk (growslice_fits zO oL);simp only [execOp,ho,resolve,aX,cK,bJ,invoke,builtin,gH,bI,ft,hx,hy,h];exact grow zO _ (grownCap_ge _ _ _ _)
theorem N0 {r:dR} {b:Blk} {W:World} {g q:Nat} {u:Value} (hg:W.heap[g]? = some (b.obj r)) (hq:b.c[q]? = some u) (hf:bU u=true) (H8:b.T.rd=true):W.cell? ⟨g,q,none⟩=some u:=by
 obtain ⟨c,T⟩:=b
 cases T with
 | ty t =>
  simp only [World.cell?,hg,Blk.obj,j0];rw [hq];simp [fY hf]
 | raw t fr=>simpa [World.cell?,hg,Blk.obj] using hq
 | mp=>cases H8
theorem CW {r:dR} {ts:fp} {hp:Hp} {a:Act} {W:World} {ro:Option Nat} {mn:Nat} {o:Oper} {tx ty:Tmp} {t e:TypeId} {i:TypeInfo} {z:Value} {k j au sl cap m m' nk:Nat} {b b2:Blk} {nw:List Value} {next:Act->World->Prop} {Q:Exit->Act->World->Prop}
  (h:RI C n d r ts hp yc a W) (hd:∀ dd,o.dst=some dd->dd<n)
  (ho:o.op=.call { callee:=.builtin .append,args:=#[.tmp tx,.tmp ty],argTypes:=#[t,t] }) (ht:P.underlying t=some (.slice e)) (hi:P.info? e=some i) (hz:i.zero=some z)
  (hx:ts tx=.slice (some ⟨k,0,none⟩) sl cap) (hk:100<=k) (hb:hp k=some b) (RY:b.T=.ty e) (Za:∀ x∈b.c,bU x=true)
  (hy:ts ty=.slice (some ⟨j,au,none⟩) m m') (oL:hp j=some b2) (H8:b2.T.rd=true) (Ei:nw.length=m*i.size) (H6:∀ q u,nw[q]? = some u->b2.c[au+q]? = some u) (BW:∀ x∈nw,bU x=true) (h1:∀ u∈nw,u.oneCell'=true) (vr:∀ c,∀ x∈Builtin.zeroCells z.cells c,bU x=true)
  (hc:cap*i.size<=b.c.size) (MQ:sl<=cap) (HU:sl+m<=maxLen) (nU:(sl+m)*i.bytes<=140737488355328) (rY:hp nk=none/\100<=nk)
  (room:sl+m<=cap->∀ r' a' W',RI C n d r' (cJ ts o.dst (.slice (some ⟨k,0,none⟩) (sl+m) cap)) (upd hp k (some ⟨(b.c.toList.take (sl*i.size)++nw++b.c.toList.drop (sl*i.size+nw.length)).toArray,e⟩)) yc a' W'->next a' W')
  (grow:cap<sl+m->∀ cM,sl+m<=cM->∀ r' a' W',RI C n d r' (cJ ts o.dst (.slice (some ⟨nk,0,none⟩) (sl+m) cM)) (upd hp nk (some ⟨(b.c.toList.take (sl*i.size)).toArray++nw.toArray++Builtin.zeroCells z.cells (cM - (sl+m)),e⟩)) yc a' W'->next a' W') :
  o.wpIn (Fw P ro) mn P a W next Q:=by
 obtain ⟨bc,bT⟩:=b;simp only at RY;subst RY;simp only at Za hc room grow
 have hg:W.heap[r k]? = some (.cells bc e (0,0)):=by
  have:=(h.sat k _ hb).1;rw [Blk.obj_flat Za] at this;exact this
 have hn:∀ q u,nw[q]? = some u->W.cell? ((⟨r j,au,none⟩:Addr).add q)=some u:=λq u hq=>by
  rw [mL];exact N0 (h.sat j b2 oL).1 (H6 q u hq) (BW u (mD hq)) H8
 have ex:a.eval (.tmp tx)=.slice (some ⟨r k,0,none⟩) sl cap:=by
  exact yu
 have ey:a.eval (.tmp ty)=.slice (some ⟨r j,au,none⟩) m m':=by
  exact Fj
 have Zd:dom hp k:=iv;have fo:∀ x∈bc.toList.take (sl*i.size),bU x=true:=λx hx=>Za x (by simpa using mH hx);have fn:∀ x∈nw,bU x=true:=BW;refine lz lC (CY (R:=λu W'=>next (a.put o.dst u) W') (Rp:=λ_ _=>False) ho ht hi hz ex hg ey Ei hn hc MQ HU nU h1 (λhr=>?_) (λhr cM eK=>?_)) (λu W' h=>h) (λpv W' h=>h.elim)
 ·have hf:∀ x∈(bc.toList.take (sl*i.size)++nw++bc.toList.drop (sl*i.size+nw.length)).toArray,bU x=true:=λx hx=>by
   simp only [eZ,bh] at hx;rcases hx with (hx|hx)|hx
   ·exact fo x hx
   ·exact fn x hx
   ·exact Za x (by simpa using mJ hx)
  refine room hr r _ _ (h.after (e:=⟨.slice (some ⟨k,0,none⟩) (sl+m) cap,[],[(k,⟨_,.ty e⟩)],[],none,false⟩) hd (λ_ _=>rfl) (by simp [aL,cQ,aI,aP,eo,Zd]) ⟨rfl,rfl,rfl,zS,λq hq hnq=>?_,λp hp1=>?_,zS,zS⟩ (by simp [ak,Zd,hk]) ai)
  ·exact aaV
  ·simp only [eP,br] at hp1;subst hp1;refine ⟨?_,Blk.flat_ids hf⟩;rw [Blk.obj_flat hf];exact setRow_heap W (r k) bc _ e (0,0) hg
 ·have hf:∀ x∈(bc.toList.take (sl*i.size)).toArray++nw.toArray++Builtin.zeroCells z.cells (cM - (sl+m)),bU x=true:=λx hx=>by
   simp only [CF,eZ] at hx;rcases hx with (hx|hx)|hx
   ·exact fo x hx
   ·exact fn x hx
   ·exact vr _ x hx
  have B4:¬dom hp nk:=by unfold dom;simp [rY.1]
  have Ku:∀ q,dom hp q->upd r nk W.heap.size q=r q:=λq hq=>ao _ _ (λe=>B4 (e▸hq));have hv:(Value.slice (some ⟨W.heap.size,0,none⟩) (sl+m) cM)=ren (upd r nk W.heap.size) (.slice (some ⟨nk,0,none⟩) (sl+m) cM):=xA;rw [hv];refine grow hr cM eK (upd r nk W.heap.size) _ _ (h.drew.after (e:=⟨.slice (some ⟨nk,0,none⟩) (sl+m) cM,[],[],[(nk,⟨_,.ty e⟩)],none,false⟩) hd Ku gb ⟨rfl,rfl,rfl,sF,λq hq _=>?_,λp hp1=>?_,λp hp1=>?_,by simp⟩ ai (by simp [ak,rY]))
  ·exact rG _ _ _ hq
  ·simp only [bq,br] at hp1;subst hp1;refine ⟨?_,Blk.flat_ids hf⟩;rw [Blk.obj_flat hf];simp only [cY];exact heap_alloc_new W.drew _
  ·exact Ht
def SI (P:Program) (o:Oper) (ts:fp) (hp:Hp) (nk:Nat) (next:(Nat->Value)->Hp->Prop):Prop :=
 ∃ (tx ty:Tmp) (t e:TypeId) (i:TypeInfo) (z:Value) (k j au sl cap m m':Nat) (b b2:Blk) (nw:List Value),
  o.op=.call { callee:=.builtin .append,args:=#[.tmp tx,.tmp ty],argTypes:=#[t,t] }/\P.underlying t=some (.slice e)/\P.info? e=some i/\i.zero=some z /\
  ts tx=.slice (some ⟨k,0,none⟩) sl cap/\100<=k/\hp k=some b/\b.T=.ty e/\(∀ x∈b.c,bU x=true) /\
  ts ty=.slice (some ⟨j,au,none⟩) m m'/\hp j=some b2/\b2.T.rd=true/\nw.length=m*i.size/\(∀ q u,nw[q]? = some u->b2.c[au+q]? = some u)/\(∀ x∈nw,bU x=true)/\(∀ u∈nw,u.oneCell'=true)/\(∀ c,∀ x∈Builtin.zeroCells z.cells c,bU x=true) /\
  cap*i.size<=b.c.size/\sl<=cap/\sl+m<=maxLen/\(sl+m)*i.bytes<=140737488355328 /\
  (sl+m<=cap->next (cJ ts o.dst (.slice (some ⟨k,0,none⟩) (sl+m) cap)) (upd hp k (some ⟨(b.c.toList.take (sl*i.size)++nw++b.c.toList.drop (sl*i.size+nw.length)).toArray,e⟩))) /\
  (cap<sl+m->∀ cM,sl+m<=cM->next (cJ ts o.dst (.slice (some ⟨nk,0,none⟩) (sl+m) cM)) (upd hp nk (some ⟨(b.c.toList.take (sl*i.size)).toArray++nw.toArray++Builtin.zeroCells z.cells (cM - (sl+m)),e⟩)))
theorem WB {id:Nat} {pre post:og} {o:Oper} (pn:List FuncId) (hg:o.guard=none) (jJ:(pW n (pre++o::post)&&Av P (pre++o::post))=true)
  (h:∀ (Q:(Nat->Value)->Hp->Tr->Nat->Prop) (Qp:Value->Tr->Prop),(∀ ts hp tr yc,K .normal ⟨ts,hp,s.B+8*(pre.length+1+post.length),yc⟩->Q ts hp tr yc) ->
   ph P C.G ⟨C.Y,pn,false⟩ (pre++o::post).toArray s.B (λts hp _ yc=>SI P o ts hp (s.B+8*pre.length) λov eG=>ph P C.G ⟨C.Y,pn,false⟩ (pre++o::post).toArray s.B Q (λ_ _=>False) (pre.length+1) post ov eG [] yc true false)
    (λ_ _=>False) 0 pre s.ts s.hp [] s.yc false false):GW P C n d ro (.region id (pre++o::post).toArray false) s K:=by
 intro r a W hi;simp only [bn] at jJ;replace h:=h (λts hp _ yc=>K .normal ⟨ts,hp,s.B+8*(pre.length+1+post.length),yc⟩) (λ_ _=>False) (λ_ _ _ _ a=>a);have ok:∀ q∈pre++o::post,(((∀ dd,q.dst=some dd->dd<n)/\∀ c,q.op≠.defer c)/\unC P q)/\q∈pre++o::post:=λq hq=>⟨⟨qI jJ.1 hq,uj jJ.2 q hq⟩,hq⟩
 refine wpIn_region_lit ?_
 refine qW (o::post) (ops:=(pre++o::post).toArray) (base:=s.B) (pn:=pn) (Kn:=λts hp yc=>SI P o ts hp (s.B+8*pre.length) λov eG=>ph P C.G ⟨C.Y,pn,false⟩ (pre++o::post).toArray s.B (λts hp _ yc=>K .normal ⟨ts,hp,s.B+8*(pre.length+1+post.length),yc⟩) (λ_ _=>False) (pre.length+1) post ov eG [] yc true false)
  (Kp:=λ_=>False) (hp0:=s.hp) (jK:=s.ts) (l0:=pre++o::post) hi.flat hi.rounds hi.low pre 0 s.ts s.hp [] s.yc false false r a W (λq hq=>ok q (eE _ hq)) (λ_ _=>rfl) hi.ri sR (λ_ _ _ h=>h) ?_ (λ_ _ _ _ _ _ _ h=>h.elim) ?_
 ·intro ts hp yc r' a' W' hk cS hf Ah;obtain ⟨tx,ty,t,e,i,z,k,j,au,sl,cap,m,m',b,b2,nw,ho,ht,Zf,hz,hx,pf,hb,RY,Za,hy,oL,H8,Ei,H6,BW,h1,vr,hc,MQ,HU,nU,Ji,OB⟩:=hk;have eM:=ok o zS
  have tail:∀ (ov:fp) (eG:Hp) kv Y4 gS,RI C n d kv ov eG yc Y4 gS->(∀ x,s.B+8*(pre.length+1)<=x->eG x=none)->(∀ q,(∀ o'∈pre++o::post,o'.dst≠some q)->ov q=s.ts q) ->
    ph P C.G ⟨C.Y,pn,false⟩ (pre++o::post).toArray s.B (λts hp _ yc=>K .normal ⟨ts,hp,s.B+8*(pre.length+1+post.length),yc⟩) (λ_ _=>False) (pre.length+1) post ov eG [] yc true false ->
    wpListIn (Fw P ro) 0 P (pre++o::post).toArray (λe a' W'=>∃ s' r',K e s'/\GI P C n d r' s' a' W') post Y4 gS:=λov eG kv Y4 gS MK axg arw hl=>by
   have:=qW (ro:=ro) [] (ops:=(pre++o::post).toArray) (base:=s.B) (pn:=pn) (Q:=λe a' W'=>∃ s' r',K e s'/\GI P C n d r' s' a' W') (Kn:=λts hp yc=>K .normal ⟨ts,hp,s.B+8*(pre.length+1+post.length),yc⟩) (Kp:=λ_=>False) (hp0:=s.hp) (jK:=s.ts) (l0:=pre++o::post) hi.flat hi.rounds hi.low post (pre.length+1) ov eG [] yc true false kv Y4 gS
    (λq hq=>ok q (by simp [hq])) arw MK axg zS (λts hp yc r a W hk hi3 hf3 _=>wpListIn_nil ⟨⟨ts,hp,_,yc⟩,r,hk,hi3,hf3,by have:=hi.low;simp only;omega,hi.flat,hi.rounds⟩) (λ_ _ _ _ _ _ _ h=>h.elim) hl
   exact Rh
  refine wpListIn_plain hg λK' MG=>?_;have hf0:∀ x,s.B+8*pre.length<=x->hp x=none:=by simpa using hf
  refine CW cS eM.1.1.1 ho ht Zf hz hx pf hb RY Za hy oL H8 Ei H6 BW h1 vr hc MQ HU nU (nk:=s.B+8*pre.length) ⟨hf0 _ (aA _),by have:=hi.low;omega⟩ (λhr kv Y4 gS MK=>MG _ _ (tail _ _ kv Y4 gS MK (λx qy=>?_) (λq hq=>(m8 (hq o zS)).trans (Ah q hq)) (Ji hr))) (λhr cM qX kv Y4 gS MK=>MG _ _ (tail _ _ kv Y4 gS MK (λx qy=>?_) (λq hq=>(m8 (hq o zS)).trans (Ah q hq)) (OB hr cM qX)))
  ·rw [ao _ _ (λe=>?_)]
   ·exact hf0 x zO
   ·subst e;rw [hf0 x zO] at hb;cases hb
  ·rw [ao _ _ (λe=>zO)];exact hf0 x zO
 ·exact h
end
theorem HG {p:Prop} (h:p:=by
 rw [(pY i ot).2,Blk.obj_congr (λk hk=>(pY k hk).2) (oM i b hb)] at this;rw [this,(jU i b hb).1]):p:=h
theorem FN {p:Prop} (h:p:=by
 obtain ⟨q,hq,rfl⟩:=aK.1 hm;simp only [hm,ru,aV] at hb
 have om:100<=q:=by
  by_cases om:100<=q
  ·exact om
  ·exact absurd (by rw [(h.low q zO).1];omega) h1
 obtain ⟨c,e1,e2⟩:=h.at' q hq om;rw [e2] at hb;cases hb;exact ⟨q,c,by simp [rst,hq,e1],rfl,rfl⟩):p:=h
theorem G8 {p:Prop} (h:p:=by
 have hm:k∈rs:=by
  by_cases hm:k∈rs
  ·exact hm
  ·simp [h1,hm] at hk
 simp only [hm,ru,aV] at hk;obtain ⟨c,e1,e2⟩:=h.at' k hm zO;rw [hk] at e1;cases e1;have gk:ρ k∈rs.map ρ:=aK.2 ⟨k,hm,rfl⟩;simp only [gk,ru,aV] at hb;rw [e2] at hb;cases hb;rfl):p:=h
theorem EN {p:Prop} (h:p:=by
 unfold dom rst at hk;by_cases hm:k∈rs
 ·exact hm
 ·simp [hm] at hk;omega):p:=h
theorem Ha {p:Prop} (h:p:=by
 refine ⟨⟨aB,λt=>?_,jU,aiP,⟨λk=>k<W.heap.size/\¬im k,[],⟨λ_=>gM,rfl,rfl,rfl,aA _,λ_ _=>rfl⟩,λk hk=>hk.1,λi hi _ hS=>hS.2 ⟨i,hi,rfl⟩,⟨rfl,jX⟩,zS⟩,
  λi hi=>⟨hi,rfl⟩,λk hk=>?_,bC⟩,eU,hB,eg,λy hy=>by cases hy⟩
 ·right
  dsimp only;by_cases ht:t<args.size
  ·exact F5
  ·have e:args.getD t undef=undef:=by simp [fG (mF ht)]
   rw [e];refine ⟨?_,mY _⟩;rw [kI];simp only [jY];rw [vH xh,mN];split<;>rfl
 ·show rst hp rs k=G k;simp [rst,hk,hG k hk]):p:=h
theorem Em {p:Prop} (h:p:=by
 by_cases jR:im k
 ·obtain ⟨i,ot,rfl⟩:=jR
  cases hb:rst hp rs i with
  | none=>exact absurd hb ot
  | some b =>
   have e:s'.hp i=some b:=(H4 i ot).trans hb;have:=mine gS e5 i b e;exact HG
 ·have dz:S k:=(hS k).2 ⟨hk,jR⟩;rw [e5 k (λhm=>(rX k hm).2.1 dz)];exact wH k dz):p:=h
theorem Fx {p:Prop} (h:p:=by
 have hd:dom s'.hp (ρ p.1):=by unfold dom;rw [hns p hp1];simp
 have h1:=ND _ hd (hρ p hp1).2;rw [hS] at h1;refine bu λdp=>h1 ⟨zO,λ⟨i,ot,e⟩=>?_⟩;have:=cS.ri.inj i (ρ p.1) (pY i ot).1 hd ((pY i ot).2.trans e);exact (hρ p hp1).1 (this▸ot)):p:=h
theorem Ef {p:Prop} (h:p:=by
 have hd:∀ x∈ns,dom s'.hp (ρ x.1):=λx hx=>by unfold dom;rw [hns x hx];simp
 exact jk p hp1 q om (cS.ri.inj _ _ (hd p hp1) (hd q om) hpq)):p:=h
theorem Fu {p:Prop} (h:p:=by
 simp only [Blk.rn,Blk.obj,gD];congr 2;funext x;exact uf r ρ x):p:=h
theorem Ew {p:Prop} (h:p:=by
 intro x hx;obtain ⟨y,hy,rfl⟩:=eQ.1 hx;exact za h (hb y hy)):p:=h
theorem yr {p:Prop} (h:p:=by
 cases x with
 | pointer p=>cases p<;>rfl
 | slice p _ _=>cases p<;>rfl
 | map p=>cases p<;>rfl
 | _=>exact hx):p:=h
theorem sX {p:Prop} (h:p:=by
 have hg:G k=some b:=(hG k hk).symm.trans hb;exact Blk.rn_flat (eg k b hg).2):p:=h
theorem yL {p:Prop} (h:p:=by
 unfold rst at hb;by_cases h1:k<100
 ·simp only [h1,j8,aV] at hb;have hl:=h.low k h1;rw [hl.2] at hb;exact ⟨k,b,by simp [rst,h1,hb],hl.1,(bflat k b h1 hb).symm⟩
 ·by_cases hm:k∈rs.map ρ
  ·exact FN
  ·simp [h1,hm] at hb):p:=h
theorem yJ {p:Prop} (h:p:=by
 obtain ⟨y,hy,rfl⟩:=eQ.1 hx;have:=hi.cids y hy;exact ⟨uq y this.1,(ky (uq y this.1)).2 (H9 (λk hk=>h.dom1 hk) ((ky this.1).1 this.2))⟩):p:=h
theorem yI {p:Prop} (h:p:=by
 obtain ⟨q,c,h1,rfl,rfl⟩:=back k b hb;exact Blk.ids_rn (λk hk=>h.dom1 hk) (hi.closed q c h1)):p:=h
theorem yR {p:Prop} (h:p:=by
 rw [gD];refine bY λx hx=>?_;have:=(hi.cids x hx).1;simp only [Function.comp];rw [<-kA (r:=ρ) this,lx]):p:=h
theorem xM {p:Prop} (h:p:=by
 have hd:dom (rst hp rs) k:=iV;have vc:=h.dom1 hd;unfold dom at vc
 cases hb:rst eG (rs.map ρ) (ρ k) with
 | none=>exact absurd hb vc
 | some b' =>
  have e:b'=b.rn ρ:=by
   unfold rst at hb hk;by_cases h1:k<100
   ·have hl:=h.low k h1;simp only [h1,j8,aV] at hk;rw [hl.1] at hb;simp only [h1,j8,aV] at hb;rw [hl.2,hk] at hb;cases hb;exact (bflat k b h1 hk).symm
   ·exact G8
  have:=(jU _ b' hb).1;rw [e,Blk.rn_obj] at this;exact this):p:=h
theorem yK {p:Prop} (h:p:=by
 have e2:=jk _ _ (h.dom1 hk) (h.dom1 hl) e
 have mem:∀ k,dom (rst hp rs) k->100<=k->k∈rs:=λk hk h1=>by
  exact EN
 by_cases h1:k<100
 ·by_cases h2:l<100
  ·rw [(h.low k h1).1,(h.low l h2).1] at e2;exact e2
  ·have:=h.big l (mem l hl zO) zO;rw [(h.low k h1).1] at e2;omega
 ·by_cases h2:l<100
  ·have:=h.big k (mem k hk zO) zO;rw [(h.low l h2).1] at e2;omega
  ·exact h.inj k (mem k hk zO) l (mem l hl zO) zO zO e2):p:=h
theorem ym {p:Prop} (h:p:=by
 show r (ρ k)=k;have:=h.dom1 hd;rw [(h.low k hk).1] at this |-;exact bC k hk this):p:=h
theorem xW {p:Prop} (h:p:=by
 refine nS _ (h.dom1 hd) (h.big i ?_ h1);unfold dom rst at hd;by_cases hm:i∈rs
 ·exact hm
 ·simp [hm] at hd;omega):p:=h
abbrev j8 := @true_or
abbrev ru := @or_true

theorem LG (r ρ:dR) (v:Value):aF r (aF ρ v)=aF (λk=>r (ρ k)) v:=by
 cases v with
 | pointer p=>cases p<;>rfl
 | slice p _ _=>cases p<;>rfl
 | map p=>cases p<;>rfl
 | _=>rfl
theorem uf (r ρ:dR) (v:Value):aw r (aw ρ v)=aw (λk=>r (ρ k)) v:=by
 cases v with
 | func f a b=>simp only [aw,gD];congr 1<;>(congr 1;funext x;exact LG r ρ x)
 | iface t v=>simp only [aw,LG]
 | pointer p=>cases p<;>rfl
 | slice p _ _=>cases p<;>rfl
 | map p=>cases p<;>rfl
 | _=>rfl
theorem zj (r ρ:dR) (v:Value):aW r (aW ρ v)=aW (λk=>r (ρ k)) v:=by
 cases v with
 | agg cs=>simp only [aW,gD];congr 2;funext x;exact uf r ρ x
 | func f a b=>exact uf r ρ (.func f a b)
 | iface t v=>exact uf r ρ (.iface t v)
 | pointer p=>cases p<;>rfl
 | slice p _ _=>cases p<;>rfl
 | map p=>cases p<;>rfl
 | _=>rfl
theorem lx (r ρ:dR) (v:Value):ren r (ren ρ v)=ren (λk=>r (ρ k)) v:=by
 cases v with
 | tuple vs=>simp only [ren,gD];congr 2;funext x;exact zj r ρ x
 | agg cs=>exact zj r ρ (.agg cs)
 | func f a b=>exact zj r ρ (.func f a b)
 | iface t v=>exact zj r ρ (.iface t v)
 | pointer p=>cases p<;>rfl
 | slice p _ _=>cases p<;>rfl
 | map p=>cases p<;>rfl
 | _=>rfl

section
variable {P:Program} {G:Hp}

theorem Nc {f:FuncId} {fn:Func} {c:Code} {args:ca} {hp:Hp} {rs:List Nat} {v:Value} {ns:cf} {B:Nat} (ρ:dR) (eg:c7 G) (hG:∀ k,k<100->hp k=G k) (hf:P.funcs[f]? = some fn) (hb:fn.body=some c) (gC:∀ a w,(callFunc f a).run P w=.ok (.enter f a) w)
  (ha:∀ x∈args,aL (dom (rst hp rs)) x) (oM:∀ k b,rst hp rs k=some b->b.ids (dom (rst hp rs))) (eI:(Res.new v ns).fits hp rs) (hn:args.size<=fn.ntmps) (hB:100<=B) (eU:∀ x,B<=x->rst hp rs x=none)
  (hρ0:∀ k,dom (rst hp rs) k->ρ k=k) (hρ:∀ p∈ns,¬dom (rst hp rs) (ρ p.1)/\100<=ρ p.1) (jk:∀ p∈ns,∀ q∈ns,ρ p.1=ρ q.1->p.1=q.1) (hbl:∀ p∈ns,p.2.ids (dom (rst hp rs)))
  (h:∀ C:Ctx,C.G=G->C.hp0=rst hp rs->C.Y=none->GW P C fn.ntmps [] none c ⟨λt=>args.getD t undef,rst hp rs,B,0⟩ λe s=>(e=.normal\/e=.ret)/\tB P fn.results.toList s.ts s.hp=some (ren ρ v) /\
   (∀ p∈ns,s.hp (ρ p.1)=some p.2)/\∀ k,dom (rst hp rs) k->s.hp k=rst hp rs k):Fun P G f args hp rs (.new v ns):=by
 refine ⟨gC,ha,oM,eI,λr W kE jU aiP bC=>callsIn_of_wp_marks hf hb ⟨fn,hf⟩ ?_⟩
 have RL:∀ k,dom (rst hp rs) k->r k<W.heap.size:=λk hk=>by
  exact yx
 let im:Nat->Prop:=λj=>∃ i,dom (rst hp rs) i/\r i=j;let C:Ctx:=⟨jM W im,rst hp rs,r,G,none⟩
 have hi:GI P C fn.ntmps [] r ⟨λt=>args.getD t undef,rst hp rs,B,0⟩ { tmps:=args.map (ren r)++Array.replicate (fn.ntmps - (args.map (ren r)).size) undef,defers:=[] } W:=by
  exact Ha
 refine wpIn_mono (h C rfl rfl rfl r _ W hi) ?_;rintro e a' W' ⟨s',r',⟨he,hr,hns,H4⟩,cS⟩;obtain ⟨S,ms,⟨hS,os,tape,output,size,wH⟩,xR,ND,⟨vp,B4⟩,rX⟩:=cS.ri.ext;have pY:∀ i,dom (rst hp rs) i->dom s'.hp i/\r' i=r i:=cS.ri.keep
 have mine:∀ gS:World,(∀ k,k∉ms->gS.heap[k]? = W'.heap[k]?)->∀ i b,s'.hp i=some b->gS.heap[r' i]? = some (b.obj r'):=λgS hW i b hb=>by
  exact xZ
 have dk:∀ gS:World,gS.heap.size=W'.heap.size->gS.os=W'.os->gS.tape=W'.tape->gS.output=W'.output->(∀ k,k∉ms->gS.heap[k]? = W'.heap[k]?) ->
   LeavesIn (Fw P none) 0 P fn a'.tmps ((Res.new v ns).holds r (dom (rst hp rs)) W) [] .returning gS:=λgS e1 e2 e3 e4 e5=>by
  have tU:Sat r' (dom s'.hp) s'.hp gS:=λk b hk=>⟨mine gS e5 k b hk,(cS.ri.sat k b hk).2⟩
  have gU:=lW (fn:=fn) cS.ri.rel tU hr;rw [lx] at gU;refine ⟨_,gU,λ_=>⟨λk=>r' (ρ k),λk hk=>?_,rfl,?_⟩⟩
  ·simp only [hρ0 k hk];exact (pY k hk).2
  ·have hag:∀ k,dom (rst hp rs) k->r' (ρ k)=r' k:=λk hk=>by rw [hρ0 k hk]
   refine ⟨e2.trans os,e3.trans tape,e4.trans output,sS,λk hk _=>?_,λp hp1=>?_,λp hp1=>?_,λp hp1 q om hpq=>?_⟩
   ·exact Em
   ·have hp1:p∈ns:=by simpa using hp1
    refine ⟨?_,Blk.ids_mono (λk hk=>.inl hk) (hbl p hp1)⟩;have:=mine gS e5 _ _ (hns p hp1);rw [Blk.obj_congr (r:=r') hag (hbl p hp1)];exact this
   ·exact Fx
   ·exact Ef
 exact nO

def Blk.rn (ρ:dR) (b:Blk):Blk:=match b.T with
 | .ty t=>⟨b.c.map (aw ρ),.ty t⟩
 | .raw _ _=>b
 | .mp=>⟨b.c.map (aw ρ),.mp⟩
theorem Blk.rn_obj (r ρ:dR) (b:Blk):(b.rn ρ).obj r=b.obj (λk=>r (ρ k)):=by
 obtain ⟨c,T⟩:=b
 cases T with
 | raw t fr=>rfl
 | ty t =>
  exact Fu
 | mp =>
  exact Fu
theorem Blk.rn_flat {ρ:dR} {b:Blk} (h:∀ x∈b.c,bU x=true):b.rn ρ=b:=by
 obtain ⟨c,T⟩:=b
 cases T with
 | raw t fr=>rfl
 | ty t=>simp only [Blk.rn];rw [fi (λx hx=>fY (h x hx))]
 | mp=>simp only [Blk.rn];rw [fi (λx hx=>fY (h x hx))]
theorem H9 {ρ:dR} {D D':iH} (h:∀ k,D k->D' (ρ k)) {v:Value} (hv:aP D v):aP D' (aF ρ v):=by
 cases v with
 | pointer p=>cases p<;>first|exact h _ hv|trivial
 | slice p _ _=>cases p<;>first|exact h _ hv|trivial
 | map p=>cases p<;>first|exact h _ hv|trivial
 | _=>trivial
theorem za {ρ:dR} {D D':iH} (h:∀ k,D k->D' (ρ k)) {v:Value} (hv:aI D v):aI D' (aw ρ v):=by
 cases v with
 | func f a b =>
  refine ⟨λx hx=>?_,λx hx=>?_⟩
  ·obtain ⟨y,hy,rfl⟩:=eQ.1 hx;exact H9 h (hv.1 y hy)
  ·obtain ⟨y,hy,rfl⟩:=eQ.1 hx;exact H9 h (hv.2 y hy)
 | iface t v=>exact H9 (v:=v) h hv
 | pointer p=>cases p<;>first|exact h _ hv|trivial
 | slice p _ _=>cases p<;>first|exact h _ hv|trivial
 | map p=>cases p<;>first|exact h _ hv|trivial
 | _=>trivial
theorem Blk.ids_rn {ρ:dR} {D D':iH} (h:∀ k,D k->D' (ρ k)) {b:Blk} (hb:b.ids D):(b.rn ρ).ids D':=by
 obtain ⟨c,T⟩:=b
 cases T with
 | raw t fr=>trivial
 | ty t =>
  exact Ew
 | mp =>
  exact Ew
structure Rn (ρ:dR) (hp eG:Hp) (rs:List Nat):Prop where
 low:∀ k,k<100->ρ k=k/\eG k=hp k
 big:∀ k∈rs,100<=k->100<=ρ k
 at':∀ k∈rs,100<=k->∃ b,hp k=some b/\eG (ρ k)=some (b.rn ρ)
 inj:∀ k∈rs,∀ l∈rs,100<=k->100<=l->ρ k=ρ l->k=l
theorem Rn.dom1 {ρ:dR} {hp eG:Hp} {rs:List Nat} (h:Rn ρ hp eG rs) {k:Nat} (hk:dom (rst hp rs) k):dom (rst eG (rs.map ρ)) (ρ k):=by
 unfold dom rst at *
 by_cases h1:k<100
 ·have:=h.low k h1;rw [this.1];simp only [h1,j8,aV] at hk |-;rw [this.2];exact hk
 ·have hm:k∈rs:=by
   by_cases hm:k∈rs
   ·exact hm
   ·simp [h1,hm] at hk
  obtain ⟨b,e1,e2⟩:=h.at' k hm zO;have:ρ k∈rs.map ρ:=aK.2 ⟨k,hm,rfl⟩;simp [this,e2]
theorem IterX.rn {pn:Option Value} {f:FuncId} {bF:ca} {hp eG:Hp} {rs:List Nat} {xs:List (Array Value)} (ρ:dR) (eg:c7 G) (hG:∀ k,k<100->hp k=G k) (h:Rn ρ hp eG rs) (hi:IterX pn P G f bF hp rs xs):IterX pn P G f (bF.map (aF ρ)) eG (rs.map ρ) xs:=by
 have uq:∀ x,eh x=true->eh (aF ρ x)=true:=λx hx=>by
  exact yr
 have bflat:∀ k b,k<100->hp k=some b->b.rn ρ=b:=λk b hk hb=>by
  exact sX
 have back:∀ k b,rst eG (rs.map ρ) k=some b->∃ q c,rst hp rs q=some c/\ρ q=k/\b=c.rn ρ:=λk b hb=>by
  exact yL
 refine ⟨hi.enter,λx hx=>?_,λk b hb=>?_,λE l stop r S W kE jU jk bC hlen hR hX hS nS=>?_⟩
 ·exact yJ
 ·exact yI
 ·have eK:(bF.map (aF ρ)).map (ren r)=bF.map (ren λk=>r (ρ k)):=by
   exact yR
  rw [eK];refine hi.run E l stop (λk=>r (ρ k)) S W kE (λk b hk=>⟨?_,hi.closed k b hk⟩) (λk l hk hl e=>?_) (λk hk hd=>?_) hlen hR hX hS (λi hd h1=>?_)
  ·exact xM
  ·exact yK
  ·exact ym
  ·exact xW
end
theorem Gf {p:Prop} (h:p:=by
 have hh:=hw.keep i h1 hi;exact ⟨hh.1,by rw [hh.2];exact hk.2⟩):p:=h
section
variable {P:Program} {C:Ctx} {n:Nat} {d:List Deferred} {ro:Option Nat} {s:GS} {K:l6}
structure WeakR (C:Ctx) (ρ:dR) (s s':GS):Prop where
 ts:∀ t,s'.ts t=fP\/(s.ts t=ren ρ (s'.ts t)/\s.ts t≠fP/\aL (dom s'.hp) (s'.ts t))
 hp:∀ k b,s'.hp k=some b->100<=k->s.hp (ρ k)=some (b.rn ρ)/\100<=ρ k
 ids:∀ k b,s'.hp k=some b->b.ids (dom s'.hp)
 inj:∀ k l,dom s'.hp k->dom s'.hp l->ρ k=ρ l->k=l
 id:∀ k,k<100->ρ k=k
 rest:∀ k b,k<100->C.G k=some b->b.rn ρ=b
 keep:∀ k,100<=k->dom C.hp0 k->dom s'.hp k/\ρ k=k
 glob:∀ k,k<100->s'.hp k=C.G k
 yc:s'.yc=s.yc
 free:∀ x,s'.B<=x->s'.hp x=none
 low:100<=s'.B
theorem GI.rename {ρ:dR} {r:dR} {a:Act} {W:World} {s':GS} (h:GI P C n d r s a W) (hw:WeakR C ρ s s'):GI P C n d (λk=>r (ρ k)) s' a W:=by
 have sub:∀ k b,s'.hp k=some b->s.hp (ρ k)=some (b.rn ρ):=λk b hb=>by
  by_cases hk:100<=k
  ·exact (hw.hp k b hb hk).1
  ·have hg:C.G k=some b:=(hw.glob k zO).symm.trans hb;rw [hw.id k zO,hw.rest k b zO hg,h.ri.glob k zO];exact hg
 have subd:∀ k,dom s'.hp k->dom s.hp (ρ k):=λk hk=>by
  unfold dom at hk
  cases hb:s'.hp k with
  | none=>exact absurd hb hk
  | some b=>unfold dom;rw [sub k b hb];simp
 refine ⟨{ h.ri with rel:=λt=>?_,sat:=λk b hb=>?_,inj:=λk l hk hl e=>hw.inj k l hk hl (h.ri.inj _ _ (subd k hk) (subd l hl) e),ext:=?_,keep:=λi hi=>?_,glob:=hw.glob,low:=λk hk hd=>?_ },hw.free,hw.low,h.flat,h.rounds⟩
 ·rcases hw.ts t with e|⟨e,cW,hi⟩
  ·exact .inl e
  ·have e':=(h.ri.rel t).resolve_left cW;refine .inr ⟨?_,hi⟩;rw [e'.1,e,lx]
 ·have hs:=(h.ri.sat _ _ (sub k b hb)).1;rw [Blk.rn_obj] at hs;exact ⟨hs,hw.ids k b hb⟩
 ·obtain ⟨S,ms,h1,h2,h3,h4⟩:=h.ri.ext;refine ⟨S,ms,by rw [hw.yc];exact h1,h2,λi hi ot=>?_,h4⟩;refine h3 _ (subd i hi) ?_;unfold dom at hi
  cases hb:s'.hp i with
  | none=>exact absurd hb hi
  | some b=>exact (hw.hp i b hb ot).2
 ·have hk:=h.ri.keep i hi;by_cases h1:100<=i
  ·exact Gf
  ·refine ⟨?_,by rw [hw.id i zO];exact hk.2⟩;unfold dom;rw [hw.glob i zO,<-h.ri.glob i zO];exact hk.1
 ·have vc:=subd k hd;rw [hw.id k hk] at vc |-;exact h.ri.low k hk vc
theorem KU {ρ:dR} {c:Code} {s':GS} (hw:WeakR C ρ s s') (h:GW P C n d ro c s' K):GW P C n d ro c s K :=
 λ_ a W hi=>h _ a W (hi.rename hw)
theorem jL {c:Code} (I:Nat->GS->Prop) {m0:Nat} {s0:GS} (hw:Weak C s s0) (h0:I m0 s0)
  (round:∀ m s,I m s->GW P C n d ro c s (dY (λs'=>∃ ρ vk m',WeakR C ρ s' vk/\I m' vk/\m'<m) K)):GW P C n d ro (.loop c) s K:=by
 have key:∀ (m:Nat) (s:GS),I m s->∀ r a W,GI P C n d r s a W->∀ (b:Frame) (k:List Item) (cs:List Frame),b.roundOf=ro ->
   (Fs P).fn b.fn->∃ e a' w',(∃ s' r',K e s'/\GI P C n d r' s' a' w')/\ArrivesIn (Machine.fenced P (Fw P ro)) P (lone (b.atR a (.code c::.inLoop c::k)) cs W) b k cs e a' w':=by
  intro m
  induction m using Nat.strongRecOn with
  | _ m ih =>
   intro s hI r a W hi b k cs Kv NF;obtain ⟨e,a₁,w₁,⟨s',r',hk,cS⟩,jf⟩:=round m s hI r a W hi b (.inLoop c::k) cs Kv NF (oR P _)
   cases e with
   | normal =>
    obtain ⟨ρ,vk,m',alQ,akW,dp⟩:=hk;obtain ⟨e₂,a₂,w₂,Vz,tR⟩:=ih m' dp vk akW _ a₁ w₁ (cS.rename alQ) b k cs Kv NF;exact yU
   | exit id=>exact ⟨_,a₁,w₁,⟨s',r',hk,cS⟩,.pass (x:=.inLoop c) rfl (λ_ _=>.inl zS) jf⟩
   | goto l=>exact ⟨_,a₁,w₁,⟨s',r',hk,cS⟩,.pass (x:=.inLoop c) rfl (λ_ _=>.inl zS) jf⟩
   | ret=>exact ⟨_,a₁,w₁,⟨s',r',hk,cS⟩,.pass (x:=.inLoop c) rfl (λ_ _=>.inl zS) jf⟩
   | panic ch=>exact ⟨_,a₁,w₁,⟨s',r',hk,cS⟩,.pass (x:=.inLoop c) rfl (λ_ _=>.inl zS) jf⟩
   | outgrown=>exact ⟨_,a₁,w₁,⟨s',r',hk,cS⟩,.pass (x:=.inLoop c) rfl (λ_ _=>.inl zS) jf⟩
 intro r a W hi;intro b k cs Kv hb hr;exact Gj
end
abbrev wg := @List.append_toArray
section
variable {P:Program} {C:Ctx} {n:Nat} {d:List Deferred} {ro:Option Nat} {s:GS} {K:l6}
def acQ (J:GS->Prop) (e:Exit) (s:GS):Prop:=e=.normal/\J s
theorem aeS {c:Code} {id:Nat} (J:GS->Prop) (h:GW P C n d ro c s (l8 id (acQ J))) (k:∀ s',J s'->K .normal s'):GW P C n d ro c s (l8 id K) :=
 gn h λe s' hs=>by
  cases e with
  | exit i =>
   simp only [l8] at hs |-;split at hs
   ·rename_i hi;rw [ag hi];exact k s' hs.2
   ·cases hs.1
  | normal=>exact k s' hs.2
  | _=>cases hs.1
@[simp] theorem Nf (J:GS->Prop) (s:GS):acQ J .normal s=J s:=by simp [acQ]
def uV (P:Program) (T:TypeId):Option Nat:=(P.info? T).map (·.bytes)
theorem ZL {o:Oper} {ts:fp} {hp:Hp} {nk:Nat} {next:(Nat->Value)->Hp->Prop} {tx ty:Tmp} {t e:TypeId} {sz o9:Nat} {z:Value} {k j au sl cap m m':Nat} {c nw:List Value} {b2:Blk}
  (ho:o.op=.call { callee:=.builtin .append,args:=#[.tmp tx,.tmp ty],argTypes:=#[t,t] }) (ht:P.underlying t=some (.slice e)) (hs:bo P e=some sz) (hz:dm P e=some z) (Jb:uV P e=some o9)
  (hx:ts tx=.slice (some ⟨k,0,none⟩) sl cap) (hk:100<=k) (hb:hp k=some ⟨c.toArray,.ty e⟩) (Za:∀ x∈c,bU x=true)
  (hy:ts ty=.slice (some ⟨j,au,none⟩) m m') (oL:hp j=some b2) (H6:∀ q u,nw[q]? = some u->b2.c[au+q]? = some u) (BW:∀ x∈nw,bU x=true) (h1:∀ u∈nw,u.oneCell'=true) (vr:∀ q,∀ x∈Builtin.zeroCells z.cells q,bU x=true)
  (hm:m*sz=nw.length) (hc:cap*sz<=c.length) (MQ:sl<=cap) (HU:sl+m<=maxLen) (nU:(sl+m)*o9<=140737488355328)
  (room:sl+m<=cap->next (cJ ts o.dst (.slice (some ⟨k,0,none⟩) (sl+m) cap)) (upd hp k (some ⟨(c.take (sl*sz)++nw++c.drop (sl*sz+nw.length)).toArray,.ty e⟩)))
  (grow:cap<sl+m->∀ cM,sl+m<=cM->next (cJ ts o.dst (.slice (some ⟨nk,0,none⟩) (sl+m) cM)) (upd hp nk (some ⟨(c.take (sl*sz)++nw++(Builtin.zeroCells z.cells (cM - (sl+m))).toList).toArray,.ty e⟩))) (H8:b2.T.rd=true:=by first|rfl|assumption):SI P o ts hp nk next:=by
 unfold bo at hs;unfold dm at hz;unfold uV at Jb
 cases hi:P.info? e with
 | none=>rw [hi] at hs;cases hs
 | some i =>
  rw [hi] at hs hz Jb;simp only [g5,bf,o4] at hs hz Jb;subst hs;subst Jb;refine ⟨tx,ty,t,e,i,z,k,j,au,sl,cap,m,m',_,_,nw,ho,ht,hi,hz,hx,hk,hb,rfl,by simpa using Za,hy,oL,H8,hm.symm,H6,BW,h1,vr,?_,MQ,HU,nU,λhr=>?_,λhr cM qX=>?_⟩
  ·simpa using hc
  ·have:=room hr;exact this
  ·have:=grow hr cM qX
   rw [show ((c.take (sl*i.size)).toArray++nw.toArray++Builtin.zeroCells z.cells (cM - (sl+m)))=(c.take (sl*i.size)++nw++(Builtin.zeroCells z.cells (cM - (sl+m))).toList).toArray by
    rw [<-wg,<-wg,oZ]]
   exact this
theorem U4 {o:Oper} {ts:fp} {hp:Hp} {nk:Nat} {next:(Nat->Value)->Hp->Prop} {tx ty:Tmp} {t e:TypeId} {sz o9:Nat} {z:Value} {k j sl cap m m':Nat} {c c2:List Value} {T2:BTy}
  (ho:o.op=.call { callee:=.builtin .append,args:=#[.tmp tx,.tmp ty],argTypes:=#[t,t] }) (ht:P.underlying t=some (.slice e)) (hs:bo P e=some sz) (hz:dm P e=some z) (Jb:uV P e=some o9)
  (hx:ts tx=.slice (some ⟨k,0,none⟩) sl cap) (hk:100<=k) (hb:hp k=some ⟨c.toArray,.ty e⟩) (Za:∀ x∈c,bU x=true)
  (hy:ts ty=.slice (some ⟨j,0,none⟩) m m') (oL:hp j=some ⟨c2.toArray,T2⟩) (BW:∀ x∈c2,bU x=true) (h1:∀ u∈c2,u.oneCell'=true) (vr:∀ q,∀ x∈Builtin.zeroCells z.cells q,bU x=true)
  (hm:m*sz=c2.length) (hc:cap*sz<=c.length) (MQ:sl<=cap) (HU:sl+m<=maxLen) (nU:(sl+m)*o9<=140737488355328)
  (room:sl+m<=cap->next (cJ ts o.dst (.slice (some ⟨k,0,none⟩) (sl+m) cap)) (upd hp k (some ⟨(c.take (sl*sz)++c2++c.drop (sl*sz+c2.length)).toArray,.ty e⟩)))
  (grow:cap<sl+m->∀ cM,sl+m<=cM->next (cJ ts o.dst (.slice (some ⟨nk,0,none⟩) (sl+m) cM)) (upd hp nk (some ⟨(c.take (sl*sz)++c2++(Builtin.zeroCells z.cells (cM - (sl+m))).toList).toArray,.ty e⟩))) (H8:T2.rd=true:=by first|rfl|assumption):SI P o ts hp nk next :=
 ZL ho ht hs hz Jb hx hk hb Za hy oL (λq u hq=>lM) BW h1 vr hm hc MQ HU nU room grow H8
theorem NK {id:Nat} {l:og} {o:Oper} {post:og} (j:Nat) (hl:l.drop j=o::post) (pn:List FuncId) (hg:o.guard=none) (jJ:(pW n l&&Av P l)=true)
  (h:∀ (Q:(Nat->Value)->Hp->Tr->Nat->Prop) (Qp:Value->Tr->Prop),(∀ ts hp tr yc,K .normal ⟨ts,hp,s.B+8*l.length,yc⟩->Q ts hp tr yc) ->
   ph P C.G ⟨C.Y,pn,false⟩ l.toArray s.B (λts hp _ yc=>SI P o ts hp (s.B+8*(l.take j).length) λov eG=>ph P C.G ⟨C.Y,pn,false⟩ l.toArray s.B Q (λ_ _=>False) ((l.take j).length+1) post ov eG [] yc true false)
    (λ_ _=>False) 0 (l.take j) s.ts s.hp [] s.yc false false):GW P C n d ro (.region id l.toArray false) s K:=by
 have e:l=l.take j++o::post:=by rw [<-hl,List.take_append_drop]
 have el:(l.take j).length+1+post.length=l.length:=by
  conv=>rhs;rw [e]
  simp;omega
 have aqH:(pW n (l.take j++o::post)&&Av P (l.take j++o::post))=true:=by rw [<-e];exact jJ
 have:=WB (P:=P) (C:=C) (n:=n) (d:=d) (ro:=ro) (s:=s) (K:=K) (id:=id) (pre:=l.take j) (post:=post) (o:=o) pn hg aqH (λQ Qp hQ=>by
  rw [<-e];exact h Q Qp λts hp tr yc hk=>hQ ts hp tr yc (by rw [el];exact hk))
 rw [<-e] at this;exact this
theorem mC {G:Hp} {m m0:cf} (ρ:dR) (l:List (Nat×Value)) (B:Nat) (hG:C.G=G) (eg:c7 G) (h0:C.hp0=hpL G m0) (hB:100<=B)
  (hl:∀ p∈l,s.ts p.1=ren ρ p.2/\s.ts p.1≠fP/\aL (dom (hpL G m)) p.2)
  (hm:∀ p∈m,s.hp (ρ p.1)=some (p.2.rn ρ)/\p.2.ids (dom (hpL G m))/\100<=p.1/\p.1<B/\100<=ρ p.1)
  (hi:∀ p∈m,∀ q∈m,ρ p.1=ρ q.1->p.1=q.1) (kL:∀ k,k<100->ρ k=k)
  (hk:∀ p∈m0,100<=p.1/\dom (hpL G m) p.1/\ρ p.1=p.1):WeakR C ρ s ⟨tsL l,hpL G m,B,s.yc⟩ where
 ts t:=by
  rcases od (l:=l) (t:=t) with h|h
  ·exact Qn
  ·exact .inr (hl _ h)
 hp k b hb h1:=by
  rcases dE hb with h|h
  ·exact ⟨(hm _ h).1,(hm _ h).2.2.2.2⟩
  ·have:=(eg k b h).1;omega
 ids k b hb:=by
  exact Gr
 inj k q jR hq e:=by
  dsimp only at jR hq;unfold dom at jR hq
  cases hb:hpL G m k with
  | none=>exact absurd hb jR
  | some b =>
   cases hc:hpL G m q with
   | none=>exact absurd hc hq
   | some c =>
    rcases dE hb with h|h<;>rcases dE hc with h'|h'
    ·exact hi _ h _ h' e
    ·have h2:=(eg q c h').1;rw [kL q h2] at e;have:=(hm _ h).2.2.2.2;simp at this;omega
    ·have h2:=(eg k b h).1;rw [kL k h2] at e;have:=(hm _ h').2.2.2.2;simp at this;omega
    ·have h2:=(eg k b h).1;have h3:=(eg q c h').1;rw [kL k h2,kL q h3] at e;exact e
 id:=kL
 rest k b dp hb:=by
  rw [hG] at hb;exact Blk.rn_flat (eg k b hb).2
 keep k h1k hd:=by
  rw [h0] at hd;exact Hd
 glob k dp:=Da
 yc:=rfl
 free x hx:=by
  dsimp only at hx |-
  cases hb:hpL G m x with
  | none=>rfl
  | some b =>
   rcases dE hb with h|h
   ·have:=(hm _ h).2.2.2.1;simp at this;omega
   ·have:=(eg x b h).1;omega
 low:=hB
end
abbrev v8 := @List.getElem?_reverse
abbrev mW := @List.length_map
abbrev gG := @List.getElem?_map
abbrev js := @List.getElem?_toArray
abbrev j5 := @List.getElem?_drop
theorem yW {z:ca} {n:Nat} {x:Value} (h:x∈Builtin.zeroCells z n):x∈z:=by
 simp only [Builtin.zeroCells,eQ,Array.mem_range] at h;obtain ⟨w,hw,rfl⟩:=h;have hz:0<z.size:=Nat.pos_of_ne_zero λe=>by rw [e] at hw;simp at hw
 have dp:=Nat.mod_lt w hz;rw [getElem!_pos z _ dp];exact jV dp
theorem Io (z:ca) (n:Nat):(Builtin.zeroCells z n).size=n*z.size:=by simp [Builtin.zeroCells]
section
variable {P:Program} {G:Hp} {V:XV}
theorem kH {ops:Array Oper} {base:Nat} {Q:QQ}:∀ (l:og) (seen:List (Option Tmp)) (k:Nat) (ts:fp) (hp:Hp) (tr:Tr) (yc:Nat) (wr yd:Bool),(∀ j,j<k->(seen[k - 1 - j]?).bind id=(ops[j]?).bind (·.dst))->(∀ i,i<l.length->l[i]? = ops[k+i]?) ->
  mz P G V base Q seen k l ts hp tr yc wr yd->ph P G V ops base Q.q Q.p k l ts hp tr yc wr yd
 | [],_,_,_,_,_,_,_,_,_,_,h=>h
 | o::l,seen,k,ts,hp,tr,yc,wr,yd,hs,hl,h=>by
  have ho:ops[k]? = some o:=by have:=hl 0 zS;simpa using this.symm
  have pZ:∀ j,j<k+1->((o.dst::seen)[k+1 - 1 - j]?).bind id=(ops[j]?).bind (·.dst):=λj hj=>by
   exact Hv
  have KI:∀ i,i<l.length->l[i]? = ops[k+1+i]?:=λi hi=>by
   have:=hl (i+1) aB;rw [rO] at this;rw [this];congr 1;omega
  simp only [mz] at h;simp only [ph]
  cases hw:oT seen k o ts with
  | none=>rw [hw] at h;exact h.elim
  | some b =>
   rw [hw] at h;rw [Kh hs hw]
   cases b with
   | true =>
    rw [Cm] at h;refine JI (λe he=>⟨he.1,?_⟩) h;have he:=he.2
    cases oz:e.pan with
    | none=>rw [oz] at he;exact kH l _ _ _ _ _ _ _ _ pZ KI he
    | some pv=>rw [oz] at he;exact ⟨λhd=>by simpa using he.1 hd,he.2⟩
   | false=>exact ⟨h.1,kH l _ _ _ _ _ _ _ _ pZ KI h.2⟩
end
section
variable {P:Program} {C:Ctx} {n:Nat} {d:List Deferred} {ro:Option Nat} {s:GS} {K:l6}
def ae4 (P:Program) (G:Hp) (V:XV) (base:Nat) (q:(Nat->Value)->Hp->Tr->Nat->Prop) (seen:List (Option Tmp)) (k:Nat) (post:og) (yc:Nat) (ts:fp) (hp:Hp):Prop :=
 mz P G V base ⟨q,λ_ _=>False⟩ seen k post ts hp [] yc true false
theorem ajX {id:Nat} {l:og} {o:Oper} {post:og} (j:Nat) (hl:l.drop j=o::post) (pn:List FuncId) (hg:o.guard=none) (jJ:(pW n l&&Av P l)=true)
  (h:∀ q:(Nat->Value)->Hp->Tr->Nat->Prop,(∀ ts hp tr yc,K .normal ⟨ts,hp,s.B+8*l.length,yc⟩->q ts hp tr yc) ->
   mz P C.G ⟨C.Y,pn,false⟩ s.B ⟨λts hp _ yc=>SI P o ts hp (s.B+8*j) (ae4 P C.G ⟨C.Y,pn,false⟩ s.B q ((l.take (j+1)).map (·.dst)).reverse (j+1) post yc),λ_ _=>False⟩ [] 0 (l.take j) s.ts s.hp [] s.yc false false) :
  GW P C n d ro (.region id l.toArray false) s K:=by
 have hj:j<l.length:=by
  refine bu λhc=>?_;rw [rU zO] at hl;cases hl
 have ej:(l.take j).length=j:=aB;have ej1:(l.take (j+1)).length=j+1:=aB
 have epost:post=l.drop (j+1):=by
  rw [show l.drop (j+1)=(l.drop j).drop 1 by rw [List.drop_drop],hl];rfl
 refine NK j hl pn hg jJ λQ Qp hQ=>?_;rw [ej];refine kH (Q:=⟨_,_⟩) (l.take j) [] 0 _ _ _ _ _ _ (λj hj=>absurd hj (jt j)) (λi hi=>?_) ?_
 ·rw [ej] at hi;rw [cD,fI,ag hi];simp
 ·have hh:=h Q hQ;refine (show ∀ q q':(Nat->Value)->Hp->Tr->Nat->Prop,(∀ ts hp tr yc,q ts hp tr yc->q' ts hp tr yc)->mz P C.G ⟨C.Y,pn,false⟩ s.B ⟨q,λ_ _=>False⟩ [] 0 (l.take j) s.ts s.hp [] s.yc false false->mz P C.G ⟨C.Y,pn,false⟩ s.B ⟨q',λ_ _=>False⟩ [] 0 (l.take j) s.ts s.hp [] s.yc false false from ?_) _ _ ?_ hh
  ·intro q q' hqq
   have key:∀ (m:og) (seen:List (Option Tmp)) (k:Nat) (ts:fp) (hp:Hp) (tr:Tr) (yc:Nat) (wr yd:Bool),mz P C.G ⟨C.Y,pn,false⟩ s.B ⟨q,λ_ _=>False⟩ seen k m ts hp tr yc wr yd->mz P C.G ⟨C.Y,pn,false⟩ s.B ⟨q',λ_ _=>False⟩ seen k m ts hp tr yc wr yd:=by
    intro m
    induction m with
    | nil=>intro seen k ts hp tr yc wr yd h;exact hqq _ _ _ _ h
    | cons o m ih =>
     intro seen k ts hp tr yc wr yd h;simp only [mz] at h |-
     cases hw:oT seen k o ts with
     | none=>rw [hw] at h;exact h.elim
     | some b =>
      rw [hw] at h
      cases b with
      | true =>
       rw [Cm] at h |-;refine JI (λe he=>⟨he.1,?_⟩) h;have he:=he.2
       cases oz:e.pan with
       | none=>rw [oz] at he;exact ih _ _ _ _ _ _ _ _ he
       | some pv=>rw [oz] at he;exact he
      | false=>exact ⟨h.1,ih _ _ _ _ _ _ _ _ h.2⟩
   exact key _ _ _ _ _ _ _ _ _
  ·intro ts hp _ yc ⟨tx,ty,t,e,i,z,k,j',au,sl,cap,m,m',b,b2,nw,h1,h2,h3,h4,h5,h6,h7,h8,h9,qw,zx,wv,zy,BA,HQ,I7,KF,MF,Oq,H3,Xo,Ji,OB⟩
   have tail:∀ ov eG,ae4 P C.G ⟨C.Y,pn,false⟩ s.B Q ((l.take (j+1)).map (·.dst)).reverse (j+1) post yc ov eG->ph P C.G ⟨C.Y,pn,false⟩ l.toArray s.B Q (λ_ _=>False) (j+1) post ov eG [] yc true false:=λov eG hc=>by
    refine kH (Q:=⟨Q,λ_ _=>False⟩) post _ (j+1) _ _ _ _ _ _ (λi hi=>?_) (λi hi=>?_) hc
    ·rw [v8 aB];simp only [mW,ej1,gG,js];rw [(zO:j+1 - 1 - (j+1 - 1 - i)=i),fI,ag hi];cases l[i]?<;>rfl
    ·rw [epost,j5];simp
   exact ⟨tx,ty,t,e,i,z,k,j',au,sl,cap,m,m',b,b2,nw,h1,h2,h3,h4,h5,h6,h7,h8,h9,qw,zx,wv,zy,BA,HQ,I7,KF,MF,Oq,H3,Xo,λhr=>tail _ _ (Ji hr),λhr cM qX=>tail _ _ (OB hr cM qX)⟩
end
end Go.Gy
