/-
  Lemmas of this claim, in their order (GyK, GyV, GyS, GyT, GyK2, GyK3, GyK4, GyQ, GyT2, GyK5, GyK6, GyYA, GyRI).
  Conditions: those of each theorem.
-/
import Derived.Test.YtekhnalfccakmaaGreatDoorGz01
import Derived.ArgAppend
import Derived.RecoverIn
set_option linter.unusedSimpArgs false
set_option linter.unusedVariables false
namespace Go.Gy
open Go Go.RowKit
theorem wu {p:Prop} (h:p:=by rw [hx];simp [eY]):p:=h
theorem v7 {p:Prop} (h:p:=by rw [hy];simp [eY]):p:=h
theorem wc {p:Prop} (h:p:=by simp only [maxLen] at ju;omega):p:=h
theorem iR {p:Prop} (h:p:=by rw [ho];intro c;simp):p:=h
theorem Cr {p:Prop} (h:p:=by exact setRow_other W (r k) q _ (λe=>hnq _ (bE.2 rfl) e.symm)):p:=h
theorem wH {p:Prop} (h:p:=by simp [ren,aT,aw,aA,bj]):p:=h
theorem dD {p:Prop} (h:p:=by simp [aN,cp,aL,aR,cJ,ak]):p:=h
theorem rF {p:Prop} (h:p:=by show W.heap.size<=(W.heap.push _).size;simp):p:=h
theorem xt {p:Prop} (h:p:=by
 have:=(h.rel tx).resolve_left wu;rw [hx] at this;exact this.1):p:=h
theorem Eg {p:Prop} (h:p:=by
 have:=(h.rel ty).resolve_left v7;rw [hy] at this;exact this.1):p:=h
theorem F7 {p:Prop} (h:p:=by
 simp only [bE] at hp1;subst hp1;show W.heap.size<=upd r nk W.heap.size nk;rw [bj];exact aG _):p:=h
abbrev qx := @Nat.add_mul
abbrev uC := @Nat.mul_le_mul_right
abbrev ql := @List.length_take
abbrev fT := @List.getElem?_take
abbrev lG := @Go.Addr.add_lit
abbrev ar := @Nat.zero_add
abbrev lB := @List.mem_of_mem_take
abbrev uN := @List.mem_of_mem_drop
section
variable {P:Program} {G:Hp} {V:XV}
variable {C:Ctx} {n:Nat} {d:List Deferred} {ro:Option Nat} {s:GS} {K:kV} {yc:Nat}
theorem tT (SA:og) {ops:Array Oper} {base:Nat} {pn:List FuncId} {Q:Exit->Act->World->Prop} {Kn:(Nat->Value)->Hp->Nat->Prop} {Kp:iQ} {hp0:Hp} {iP:eM} {l0:og} (cK:ct C.G) (hR:∀ y,C.Y=some y->qc P C y) (hb:100<=base):∀ (l:og) (k:Nat) (ts:eM) (hp:Hp) (tr:Tr) (yc:Nat) (wr yd:Bool) (r:cI) (a:Act) (W:World),
  (∀ o∈l,(((∀ dd,o.dst=some dd->dd<n)/\∀ c,o.op≠.defer c)/\unC P o)/\o∈l0)->(∀ t,(∀ o∈l0,o.dst≠some t)->ts t=iP t)->RI C n d r ts hp yc a W->(∀ x,base+8*k<=x->hp x=none)->(wr=false->∀ k b,hp0 k=some b->hp k=some b) ->
  (∀ ts hp yc r a W,Kn ts hp yc->RI C n d r ts hp yc a W->(∀ x,base+8*(k+l.length)<=x->hp x=none)->(∀ t,(∀ o∈l0,o.dst≠some t)->ts t=iP t)->wpListIn (Fw P ro) 0 P ops Q SA a W) ->
  (∀ pv ts hp yc r a W,Kp pv->(∀ k b,hp0 k=some b->hp k=some b)->(∀ t,(∀ o∈l0,o.dst≠some t)->ts t=iP t)->RI C n d r ts hp yc a W->Q (.panic [{ v:=pv,recovered:=false }]) a W) ->
  sX P C.G ⟨C.Y,pn,false⟩ ops base (λts hp _ yc=>Kn ts hp yc) (λpv _=>Kp pv) k l ts hp tr yc wr yd->wpListIn (Fw P ro) 0 P ops Q (l++SA) a W
 | [],k,ts,hp,tr,yc,wr,yd,r,a,W,_,AG,hi,hn,_,hQ,_,h=>hQ ts hp yc r a W h hi ra AG
 | o::l,k,ts,hp,tr,yc,wr,yd,r,a,W,hd,AG,hi,hn,hs0,hQ,Z7,h=>by
  have hlen:k+(o::l).length=(k+1)+l.length:=aE;rw [hlen] at hQ;refine wpListIn_step λK hK=>?_;simp only [sX] at h
  cases hw:gn ops o ts with
  | none=>rw [hw] at h;exact h.elim
  | some b =>
   rw [hw] at h;rw [pS hi.rel hw]
   cases b with
   | true =>
    simp only at h;simp only [aU];obtain ⟨e,h1,hs,hyd,h3⟩:=s6 cK hi.glob h
    have BU:(wr||!e.ws.isEmpty)=false->∀ k b,hp0 k=some b->bW hp (e.ws++e.ns) k=some b:=λJ0 k' b g8=>by
     exact FO
    refine R7 cK hR o e ts hp yc r a W 0 _ _ hi (hd o zS).1.1 h1 (λx hx=>(hs.ws x hx).2) (λx hx=>?_) (λr' a' W' o7 cv=>hK _ _ ?_) (λpv W' xS o7 cv=>?_)
    ·have:=hs.ns x hx;exact ⟨hn x zO,zO⟩
    ·rw [o7] at h3;refine tT SA cK hR hb l (k+1) _ _ _ _ _ _ r' a' W' (λo ho=>hd o (br _ ho)) (λt ht=>(py (ht o (hd o zS).2)).trans (AG t ht)) cv (λx hx=>?_) BU hQ Z7 h3;exact xo
    ·exact Dz
   | false =>
    simp only at h;simp only [gB,bY];exact ⟨Lm (Y:=none) o ts r _ a W hi.rel ⟨h.1,(hd o zS).1.2⟩,hK _ _ (tT SA cK hR hb l (k+1) _ _ _ _ _ _ r _ W (λo ho=>hd o (br _ ho)) (λt ht=>(py (ht o (hd o zS).2)).trans (AG t ht)) (hi.put_undef (hd o zS).1.1.1) (λx hx=>hn x zO) hs0 hQ Z7 h.2)⟩

theorem B6 {o:Oper} {a:Act} {W:World} {R Rp:Value->World->Prop} {x y:Operand} {t e:TypeId} {i:TypeInfo} {z:Value} {g sl cap g2 ao m m':Nat} {cur:bV} {nw:List Value}
  (ho:o.op=.call { callee:=.builtin .append,args:=#[x,y],argTypes:=#[t,t] }) (ht:P.underlying t=some (.slice e)) (hi:P.info? e=some i) (hz:i.zero=some z)
  (hx:a.eval x=.slice (some ⟨g,0,none⟩) sl cap) (hg:W.heap[g]? = some (.cells cur e (0,0))) (hy:a.eval y=.slice (some ⟨g2,ao,none⟩) m m') (hl:nw.length=m*i.size) (hn:∀ j u,nw[j]? = some u->W.cell? ((⟨g2,ao,none⟩:Addr).add j)=some u)
  (hc:cap*i.size<=cur.size) (M5:sl<=cap) (ju:sl+m<=maxLen) (mU:(sl+m)*i.bytes<=140737488355328) (h1:∀ u∈nw,u.oneCell'=true)
  (room:sl+m<=cap->R (.slice (some ⟨g,0,none⟩) (sl+m) cap) (W.setRow g (cur.toList.take (sl*i.size)++nw++cur.toList.drop (sl*i.size+nw.length)).toArray))
  (grow:cap<sl+m->∀ cW,sl+m<=cW->R (.slice (some ⟨W.heap.size,0,none⟩) (sl+m) cW) (W.drew.alloc (.cells ((cur.toList.take (sl*i.size)).toArray++nw.toArray++Builtin.zeroCells z.cells (cW - (sl+m))) e))):pW P o a W R Rp:=by
 unfold pW;by_cases hr:sl+m<=cap
 ·have fp:sl*i.size+nw.length<=cur.size:=by
   rw [hl,<-qx];exact fS (uC _ hr) hc
  have h:=run_append_room (P:=P) W t o.type e i ht hi g sl cap cur hg ⟨g2,ao,none⟩ m m' _ hl hn h1 hr fp;simp only [execOp,ho,resolve,aY,cx,bD,invoke,builtin,ff,bJ,dt,hx,hy,h];exact room hr
 ·have hlo:(cur.toList.take (sl*i.size)).length=sl*i.size:=by
   have:=uC i.size M5;simp [ql];omega
  have hold:∀ j u,(cur.toList.take (sl*i.size))[j]? = some u->W.cell? ((⟨g,0,none⟩:Addr).add j)=some u:=λj u hj=>by
   rw [fT] at hj;split at hj
   ·rw [lG];simp only [World.cell?,hg,ar];simpa using hj
   ·cases hj
  have h:=run_append_grow (P:=P) W t o.type e i z ht hi hz ⟨g,0,none⟩ sl cap _ hlo hold ⟨g2,ao,none⟩ m m' _ hl hn zO wc (growslice_fits zO mU);simp only [execOp,ho,resolve,aY,cx,bD,invoke,builtin,ff,bJ,dt,hx,hy,h];exact grow zO _ (grownCap_ge _ _ _ _)
theorem Mt {r:cI} {b:Blk} {W:World} {g q:Nat} {u:Value} (hg:W.heap[g]? = some (b.obj r)) (hq:b.c[q]? = some u) (hf:bP u=true) (JZ:b.T.rd=true):W.cell? ⟨g,q,none⟩=some u:=by
 obtain ⟨c,T⟩:=b
 cases T with
 | ty t =>
  simp only [World.cell?,hg,Blk.obj,lz];rw [hq];simp [eU hf]
 | raw t fr=>simpa [World.cell?,hg,Blk.obj] using hq
 | mp=>cases JZ
theorem Om {r:cI} {ts:eM} {hp:Hp} {a:Act} {W:World} {ro:Option Nat} {mn:Nat} {o:Oper} {tx ty:Tmp} {t e:TypeId} {i:TypeInfo} {z:Value} {k j ao sl cap m m' nk:Nat} {b b2:Blk} {nw:List Value} {next:Act->World->Prop} {Q:Exit->Act->World->Prop}
  (h:RI C n d r ts hp yc a W) (hd:∀ dd,o.dst=some dd->dd<n)
  (ho:o.op=.call { callee:=.builtin .append,args:=#[.tmp tx,.tmp ty],argTypes:=#[t,t] }) (ht:P.underlying t=some (.slice e)) (hi:P.info? e=some i) (hz:i.zero=some z)
  (hx:ts tx=.slice (some ⟨k,0,none⟩) sl cap) (hk:100<=k) (hb:hp k=some b) (hbT:b.T=.ty e) (Sg:∀ x∈b.c,bP x=true)
  (hy:ts ty=.slice (some ⟨j,ao,none⟩) m m') (mU:hp j=some b2) (JZ:b2.T.rd=true) (hnl:nw.length=m*i.size) (Lb:∀ q u,nw[q]? = some u->b2.c[ao+q]? = some u) (HO:∀ x∈nw,bP x=true) (h1:∀ u∈nw,u.oneCell'=true) (y9:∀ c,∀ x∈Builtin.zeroCells z.cells c,bP x=true)
  (hc:cap*i.size<=b.c.size) (M5:sl<=cap) (BU:sl+m<=maxLen) (pV:(sl+m)*i.bytes<=140737488355328) (mZ:hp nk=none/\100<=nk)
  (room:sl+m<=cap->∀ r' a' W',RI C n d r' (dk ts o.dst (.slice (some ⟨k,0,none⟩) (sl+m) cap)) (upd hp k (some ⟨(b.c.toList.take (sl*i.size)++nw++b.c.toList.drop (sl*i.size+nw.length)).toArray,e⟩)) yc a' W'->next a' W')
  (grow:cap<sl+m->∀ cW,sl+m<=cW->∀ r' a' W',RI C n d r' (dk ts o.dst (.slice (some ⟨nk,0,none⟩) (sl+m) cW)) (upd hp nk (some ⟨(b.c.toList.take (sl*i.size)).toArray++nw.toArray++Builtin.zeroCells z.cells (cW - (sl+m)),e⟩)) yc a' W'->next a' W') :
  o.wpIn (Fw P ro) mn P a W next Q:=by
 obtain ⟨bc,bT⟩:=b;simp only at hbT;subst hbT;simp only at Sg hc room grow
 have hg:W.heap[r k]? = some (.cells bc e (0,0)):=by
  have:=(h.sat k _ hb).1;rw [Blk.obj_flat Sg] at this;exact this
 have hn:∀ q u,nw[q]? = some u->W.cell? ((⟨r j,ao,none⟩:Addr).add q)=some u:=λq u hq=>by
  rw [lG];exact Mt (h.sat j b2 mU).1 (Lb q u hq) (HO u (qg hq)) JZ
 have ex:a.eval (.tmp tx)=.slice (some ⟨r k,0,none⟩) sl cap:=by
  exact xt
 have ey:a.eval (.tmp ty)=.slice (some ⟨r j,ao,none⟩) m m':=by
  exact Eg
 have HR:dom hp k:=fF;have fo:∀ x∈bc.toList.take (sl*i.size),bP x=true:=λx hx=>Sg x (by simpa using lB hx);have fn:∀ x∈nw,bP x=true:=HO;refine jI iR (B6 (R:=λu W'=>next (a.put o.dst u) W') (Rp:=λ_ _=>False) ho ht hi hz ex hg ey hnl hn hc M5 BU pV h1 (λhr=>?_) (λhr cW dS=>?_)) (λu W' h=>h) (λpv W' h=>h.elim)
 ·have hf:∀ x∈(bc.toList.take (sl*i.size)++nw++bc.toList.drop (sl*i.size+nw.length)).toArray,bP x=true:=λx hx=>by
   simp only [fz,cN] at hx;rcases hx with (hx|hx)|hx
   ·exact fo x hx
   ·exact fn x hx
   ·exact Sg x (by simpa using uN hx)
  refine room hr r _ _ (h.after (e:=⟨.slice (some ⟨k,0,none⟩) (sl+m) cap,[],[(k,⟨_,.ty e⟩)],[],none,false⟩) hd (λ_ _=>rfl) (by simp [aN,cp,aL,aR,cJ,HR]) ⟨rfl,rfl,rfl,zS,λq hq hnq=>?_,λp hp1=>?_,zS,zS⟩ (by simp [ak,HR,hk]) ah)
  ·exact Cr
  ·simp only [dY,bE] at hp1;subst hp1;refine ⟨?_,Blk.flat_ids hf⟩;rw [Blk.obj_flat hf];exact setRow_heap W (r k) bc _ e (0,0) hg
 ·have hf:∀ x∈(bc.toList.take (sl*i.size)).toArray++nw.toArray++Builtin.zeroCells z.cells (cW - (sl+m)),bP x=true:=λx hx=>by
   simp only [BH,fz] at hx;rcases hx with (hx|hx)|hx
   ·exact fo x hx
   ·exact fn x hx
   ·exact y9 _ x hx
  have BS:¬dom hp nk:=by unfold dom;simp [mZ.1]
  have IZ:∀ q,dom hp q->upd r nk W.heap.size q=r q:=λq hq=>aj _ _ (λe=>BS (e▸hq));have hv:(Value.slice (some ⟨W.heap.size,0,none⟩) (sl+m) cW)=ren (upd r nk W.heap.size) (.slice (some ⟨nk,0,none⟩) (sl+m) cW):=wH;rw [hv];refine grow hr cW dS (upd r nk W.heap.size) _ _ (h.drew.after (e:=⟨.slice (some ⟨nk,0,none⟩) (sl+m) cW,[],[],[(nk,⟨_,.ty e⟩)],none,false⟩) hd IZ dD ⟨rfl,rfl,rfl,rF,λq hq _=>?_,λp hp1=>?_,λp hp1=>?_,by simp⟩ ah (by simp [ak,mZ]))
  ·exact lF _ _ _ hq
  ·simp only [bw,bE] at hp1;subst hp1;refine ⟨?_,Blk.flat_ids hf⟩;rw [Blk.obj_flat hf];simp only [bj];exact heap_alloc_new W.drew _
  ·exact F7
def afC (P:Program) (o:Oper) (ts:eM) (hp:Hp) (nk:Nat) (next:(Nat->Value)->Hp->Prop):Prop :=
 ∃ (tx ty:Tmp) (t e:TypeId) (i:TypeInfo) (z:Value) (k j ao sl cap m m':Nat) (b b2:Blk) (nw:List Value),
  o.op=.call { callee:=.builtin .append,args:=#[.tmp tx,.tmp ty],argTypes:=#[t,t] }/\P.underlying t=some (.slice e)/\P.info? e=some i/\i.zero=some z /\
  ts tx=.slice (some ⟨k,0,none⟩) sl cap/\100<=k/\hp k=some b/\b.T=.ty e/\(∀ x∈b.c,bP x=true) /\
  ts ty=.slice (some ⟨j,ao,none⟩) m m'/\hp j=some b2/\b2.T.rd=true/\nw.length=m*i.size/\(∀ q u,nw[q]? = some u->b2.c[ao+q]? = some u)/\(∀ x∈nw,bP x=true)/\(∀ u∈nw,u.oneCell'=true)/\(∀ c,∀ x∈Builtin.zeroCells z.cells c,bP x=true) /\
  cap*i.size<=b.c.size/\sl<=cap/\sl+m<=maxLen/\(sl+m)*i.bytes<=140737488355328 /\
  (sl+m<=cap->next (dk ts o.dst (.slice (some ⟨k,0,none⟩) (sl+m) cap)) (upd hp k (some ⟨(b.c.toList.take (sl*i.size)++nw++b.c.toList.drop (sl*i.size+nw.length)).toArray,e⟩))) /\
  (cap<sl+m->∀ cW,sl+m<=cW->next (dk ts o.dst (.slice (some ⟨nk,0,none⟩) (sl+m) cW)) (upd hp nk (some ⟨(b.c.toList.take (sl*i.size)).toArray++nw.toArray++Builtin.zeroCells z.cells (cW - (sl+m)),e⟩)))
end
theorem eO {p:Prop} (h:p:=by rw [h]):p:=h
theorem ml {p:Prop} (h:p:=by rw [h1,h2]):p:=h
theorem kK {p:Prop} (h:p:=by rw [h,h1]):p:=h
theorem Ce {p:Prop} (h:p:=by unfold vc Mr;simp only;split<;>simp_all):p:=h
theorem F8 {p:Prop} (h:p:=by
 by_cases e:j=k
 ·subst e;simp [ho]
 ·have:k+1 - 1 - j=(k - 1 - j)+1:=zO;rw [this,qE];exact hs j zO):p:=h
abbrev qE := @List.getElem?_cons_succ
abbrev uR := @Nat.not_lt_zero
abbrev qJ := @List.size_toArray
abbrev gP := @List.length_nil
abbrev jo := @Bool.not_false
abbrev nP := @Bool.not_eq_true'
abbrev OV := Option Addr

theorem nr {α:Sort _} {a b:α} (h:a=b):a=b:=h
section
variable {P:Program} {G:Hp} {V:XV} {yc:Nat} {ts:eM} {hp:Hp} {nk:Nat} {C:Eff->Prop} {dst:Option Tmp} {type:TypeId} {pos:String} {after:Array Edge} {guard:Option (Nat×Bool)}

@[simp] theorem aph (b:Bool):nj (.bool b)=True:=nr rfl
@[simp] theorem ar9 (k:IntKind) (n:Int):nj (.int k n)=True:=nr rfl
@[simp] theorem ajN (s:ByteArray):nj (.string s)=True:=nr rfl
@[simp] theorem ahy (a:OV):nj (.pointer a)=True:=nr rfl
@[simp] theorem amS (a:OV) (n c:Nat):nj (.slice a n c)=True:=nr rfl
@[simp] theorem asa (a:Option Nat):nj (.map a)=True:=nr rfl
@[simp] theorem api (f:Fn) (a b:bV):nj (.func f a b)=True:=nr rfl
@[simp] theorem amR (t:TypeId) (v:Value):nj (.iface t v)=True:=nr rfl
@[simp] theorem ar8 (cs:bV):nj (.agg cs)=True:=nr rfl
@[simp] theorem amT (cs:bV):nj (.tuple cs)=True:=nr rfl

@[simp] theorem apk (t:Tmp):okX ts hp (.tmp t)=nj (ts t):=nr rfl
@[simp] theorem ajP (v:Value):okX ts hp (.const v)=(bz v=true):=nr rfl
@[simp] theorem ahE (g:Nat):okX ts hp (.global g)=(g<100/\(hp g).isSome=true):=nr rfl
@[simp] theorem amX (f:FuncId):okX ts hp (.func f)=True:=nr rfl
@[simp] theorem aox (t:Tmp):gev ts (.tmp t)=ts t:=nr rfl
@[simp] theorem ajf (v:Value):gev ts (.const v)=v:=nr rfl
@[simp] theorem agc (g:Nat):gev ts (.global g)=.pointer (some ⟨g,0,none⟩):=nr rfl
@[simp] theorem ak9 (f:FuncId):gev ts (.func f)=.func (.func f) #[] #[]:=nr rfl

@[simp] theorem ai7 (k:IntKind) (n:Int):bP (.int k n)=true:=nr rfl
@[simp] theorem abt (s:ByteArray):bP (.string s)=true:=nr rfl
@[simp] theorem W8 (n c:Nat):bP (.slice none n c)=true:=nr rfl
@[simp] theorem af6 (b:Bool):o6 (.bool b)=true:=nr rfl
@[simp] theorem ai6 (k:IntKind) (n:Int):o6 (.int k n)=true:=nr rfl
@[simp] theorem ai5 (cs:bV):o6 (.agg cs)=cs.all bP:=nr rfl
@[simp] theorem af7 (b:Bool):bz (.bool b)=true:=nr rfl
@[simp] theorem aja (k:IntKind) (n:Int):bz (.int k n)=true:=nr rfl
@[simp] theorem abu (s:ByteArray):bz (.string s)=true:=nr rfl
@[simp] theorem Z1:bz .nilFunc=true:=nr rfl
@[simp] theorem W9:bz .nilIface=true:=nr rfl
@[simp] theorem Xa (n c:Nat):bz (.slice none n c)=true:=nr rfl
@[simp] theorem ai8 (cs:bV):bz (.agg cs)=cs.all bP:=nr rfl
@[simp] theorem aef (cs:bV):bz (.tuple cs)=cs.all o6:=nr rfl

@[simp] theorem ant (k:IntKind) (n:Int):sB (.int k n)=true:=nr rfl
@[simp] theorem afg (s:ByteArray):sB (.string s)=true:=nr rfl
@[simp] theorem aib (a:OV) (n c:Nat):sB (.slice a n c)=true:=nr rfl
@[simp] theorem acJ (b:Bool):cw (.bool b)=true:=nr rfl
@[simp] theorem ae2 (k:IntKind) (n:Int):cw (.int k n)=true:=nr rfl
@[simp] theorem Yw (s:ByteArray):cw (.string s)=true:=nr rfl
@[simp] theorem aai (a:OV) (n c:Nat):cw (.slice a n c)=true:=nr rfl
@[simp] theorem acK (f:Fn) (a b:bV):cw (.func f a b)=true:=nr rfl
@[simp] theorem VF:cw .nilFunc=true:=nr rfl
@[simp] theorem ae1 (cs:bV):cw (.agg cs)=cs.all sB:=nr rfl

@[simp] theorem aeZ (b:Bool):jH (.bool b)=true:=nr rfl
@[simp] theorem ahA (k:IntKind) (n:Int):jH (.int k n)=true:=nr rfl
@[simp] theorem acD (a:OV) (n c:Nat):jH (.slice a n c)=true:=nr rfl
@[simp] theorem ahz (cs:bV):jH (.agg cs)=true:=nr rfl

@[simp] theorem YW (a:OV):da (.pointer a)=true:=nr rfl
@[simp] theorem afJ (b:Bool):(Value.bool b).cells=#[.bool b]:=nr rfl
@[simp] theorem aiW (k:IntKind) (n:Int):(Value.int k n).cells=#[.int k n]:=nr rfl
@[simp] theorem aa4 (s:ByteArray):(Value.string s).cells=#[.string s]:=nr rfl
@[simp] theorem ad7 (a:OV) (n c:Nat):(Value.slice a n c).cells=#[.slice a n c]:=nr rfl
@[simp] theorem afK (f:Fn) (a b:bV):(Value.func f a b).cells=#[.func f a b]:=nr rfl
@[simp] theorem ZY:Value.nilFunc.cells=#[.nilFunc]:=nr rfl
@[simp] theorem aiV (cs:bV):(Value.agg cs).cells=cs:=nr rfl

@[simp] theorem apP {α:Type} (f:Nat->α) (k:Nat) (v:α) (j:Nat):upd f k v j=if j=k then v else f j:=nr rfl
@[simp] theorem anO:bW hp []=hp:=nr rfl
@[simp] theorem akn (k:Nat) (b:Blk) (l:bS):bW hp ((k,b)::l)=bW (upd hp k (some b)) l:=nr rfl
@[simp] theorem aj3 (d:Tmp) (v:Value):dk ts (some d) v=upd ts d v:=nr rfl
@[simp] theorem aj2 (v:Value):dk ts none v=ts:=nr rfl
@[simp] theorem amF:ak []=[]:=nr rfl
@[simp] theorem ajB (k:Nat) (b:Blk) (l:bS):ak ((k,b)::l)=k::ak l:=nr rfl
@[simp] theorem apE (k:Nat) (tr:Tr):pR k [] [] tr=tr:=nr rfl
@[simp] theorem apF (k x:Nat) (l wr:List Nat) (tr:Tr):pR k (x::l) wr tr=(k,x::l,wr)::tr:=nr rfl
@[simp] theorem auN (v:Value) (rs:List Nat):(val v rs).v=v:=nr rfl
@[simp] theorem asH (v:Value) (rs:List Nat):(val v rs).rs=rs:=nr rfl
@[simp] theorem asI (v:Value) (rs:List Nat):(val v rs).ws=[]:=nr rfl
@[simp] theorem asG (v:Value) (rs:List Nat):(val v rs).ns=[]:=nr rfl
@[simp] theorem apQ (v:Value) (rs:List Nat):(val v rs).pan=none:=nr rfl
@[simp] theorem asJ (v:Value) (rs:List Nat):(val v rs).yl=false:=nr rfl
@[simp] theorem aon (rs:List Nat) (v:Value) (ws:bS):(Res.ret v ws).eff rs=⟨v,rs,ws,[],none,false⟩:=nr rfl
@[simp] theorem aom (rs:List Nat) (v:Value) (ns:bS):(Res.new v ns).eff rs=⟨v,rs,[],ns,none,false⟩:=nr rfl
@[simp] theorem aoz (k:Nat):th k=.pointer (some ⟨k,0,none⟩):=nr rfl
@[simp] theorem aik (c:bV) (o:Nat):gh c o []=c:=nr rfl
@[simp] theorem afj (c:bV) (o:Nat) (v:Value) (l:List Value):gh c o (v::l)=gh (c.setIfInBounds o v) (o+1) l:=nr rfl

def OB (v:Value) (w:Bool):Option Bool :=
 match v with
 | .bool b=>some (b==w)
 | .tuple _=>some false
 | _=>none
@[simp] theorem aiz (b w:Bool):OB (.bool b) w=some (b==w):=nr rfl
@[simp] theorem afs (w:Bool):OB undef w=some false:=nr rfl
def Oz (d:Option Tmp) (w:Bool) (ts:eM):Option Bool :=
 match d with
 | some d=>OB (ts d) w
 | none=>some false
@[simp] theorem aiy (d:Tmp) (w:Bool):Oz (some d) w ts=OB (ts d) w:=nr rfl
@[simp] theorem OC (ops:Array Oper) (op:Op) (j:Nat) (w:Bool):gn ops ⟨dst,op,type,pos,after,some (j,w)⟩ ts=Oz ((ops[j]?).bind (·.dst)) w ts:=by
 unfold gn Oz OB
 rfl

def Va (w:Option Bool) (a b:Prop):Prop :=
 match w with
 | some true=>a
 | some false=>b
 | none=>False
@[simp] theorem KA (a b:Prop):Va (some true) a b=a:=nr rfl
@[simp] theorem aiB (a b:Prop):Va (some false) a b=b:=nr rfl
def po (seen:List (Option Tmp)) (k:Nat) (o:Oper) (ts:eM):Option Bool :=
 match o.guard with
 | none=>some true
 | some (j,w)=>if j<k then Oz ((seen[k - 1 - j]?).bind id) w ts else none
@[simp] theorem adK (seen:List (Option Tmp)) (k:Nat) (op:Op):po seen k ⟨dst,op,type,pos,after,none⟩ ts=some true:=nr rfl
@[simp] theorem LR (seen:List (Option Tmp)) (k:Nat) (op:Op) (j:Nat) (w:Bool):po seen k ⟨dst,op,type,pos,after,some (j,w)⟩ ts=if j<k then Oz ((seen[k - 1 - j]?).bind id) w ts else none:=nr rfl
structure QQ where
 q:(Nat->Value)->Hp->Tr->Nat->Prop
 p:Value->Tr->Prop
def YP (pan:Option Value) (a:Prop) (b:iQ):Prop :=
 match pan with
 | none=>a
 | some v=>b v
@[simp] theorem ajZ (a:Prop) (b:iQ):YP none a b=a:=nr rfl
@[congr] theorem ahR {pan anb:Option Value} {a:Prop} {b:iQ} (h:pan=anb):YP pan a b=YP anb a b:=eO
def pd (P:Program) (G:Hp) (V:XV) (base:Nat) (Q:QQ):List (Option Tmp)->Nat->List Oper->(Nat->Value)->Hp->Tr->Nat->Bool->Bool->Prop
 | _,_,[],ts,hp,tr,yc,_,_=>Q.q ts hp tr yc
 | seen,k,o::rest,ts,hp,tr,yc,wr,yd=>Va (po seen k o ts) (opX P G V yc o ts hp (base+8*k) λe=>(e.yl=true->e.ws=[]->yd=false)/\YP e.pan
    (pd P G V base Q (o.dst::seen) (k+1) rest (dk ts o.dst e.v) (bW hp (e.ws++e.ns)) (pR k (e.rs++ak e.ns) (ak e.ws++ak e.ns) tr) (if e.yl then yc+1 else yc) (wr||!e.ws.isEmpty) (yd||(e.yl&&e.ws.isEmpty)))
    (λpv=>(V.dr=true->rest.isEmpty=true)/\(wr||!e.ws.isEmpty)=false/\Q.p pv (pR k (e.rs++ak e.ns) (ak e.ws++ak e.ns) tr)))
   (unD o ts/\pd P G V base Q (o.dst::seen) (k+1) rest (dk ts o.dst undef) hp tr yc wr yd)
theorem IN {ops:Array Oper} {seen:List (Option Tmp)} {k:Nat} {o:Oper} {b:Bool} (hs:∀ j,j<k->(seen[k - 1 - j]?).bind id=(ops[j]?).bind (·.dst)) (h:po seen k o ts=some b):gn ops o ts=some b:=by
 obtain ⟨dst,op,type,pos,after,guard⟩:=o
 cases guard with
 | none=>exact h
 | some p =>
  obtain ⟨j,w⟩:=p;rw [LR] at h;rw [OC];split at h
  ·rename_i hj;rw [hs j hj] at h;exact h
  ·cases h
theorem TY {C':Eff->Prop} (hc:∀ e,C e->C' e) {m k v:Value} (h:Nd hp m k v C):Nd hp m k v C':=by
 unfold Nd J6 HZ at *
 repeat' split at h
 all_goals first|exact h.elim|exact ⟨h.1,h.2.1,hc _ h.2.2⟩
theorem X7 {C':Eff->Prop} (hc:∀ e,C e->C' e) {m k:Value} (h:lkX hp m k C):lkX hp m k C':=by
 unfold lkX Ud Uc at *
 repeat' split at h
 all_goals first|exact h.elim|exact ⟨h.1,hc _ h.2⟩
theorem Ym {v:Value} {C C':Eff->Prop} (hc:∀ e,C e->C' e) (h:ncX v C):ncX v C':=by
 unfold ncX at *
 split at h
 ·exact hc _ h
 ·exact aK
theorem Ye {u:Option TypeDesc} {v w:Value} {C C':Eff->Prop} (hc:∀ e,C e->C' e) (h:msU P nk u v w C):msU P nk u v w C':=by
 unfold msU msM msZ at *
 repeat' split at h
 all_goals first|exact h.elim|exact ⟨h.1,h.2.1,h.2.2.1,h.2.2.2.1,h.2.2.2.2.1,h.2.2.2.2.2.1,hc _ h.2.2.2.2.2.2⟩
theorem NA {o:Oper} {C':Eff->Prop} (hc:∀ e,C e->C' e) (h:opX P G V yc o ts hp nk C):opX P G V yc o ts hp nk C':=by
 have hi:=@TY hp C C' hc;have hl:=@X7 hp C C' hc;have hn:=@Ym (C:=C) (C':=C') (hc:=hc);have hq:=@Ye P nk (C:=C) (C':=C') (hc:=hc);unfold opX JA xY cu Hy pI IS Kl at *
 repeat' split at h
 all_goals first|exact h.elim|exact ⟨h.1,h.2.1,h.2.2.1,h.2.2.2.1,h.2.2.2.2.1,hi h.2.2.2.2.2⟩|exact ⟨h.1,h.2.1,h.2.2.1,h.2.2.2.1,hl h.2.2.2.2⟩|exact ⟨h.1,hn h.2⟩|exact ⟨h.1,h.2.1,hq h.2.2⟩|skip
 all_goals grind
theorem pf {ops:Array Oper} {base:Nat} {Q:QQ}:∀ (l:og) (seen:List (Option Tmp)) (k:Nat) (ts:eM) (hp:Hp) (tr:Tr) (yc:Nat) (wr yd:Bool),(∀ j,j<k->(seen[k - 1 - j]?).bind id=(ops[j]?).bind (·.dst))->(∀ i,l[i]? = ops[k+i]?) ->
  pd P G V base Q seen k l ts hp tr yc wr yd->sX P G V ops base Q.q Q.p k l ts hp tr yc wr yd
 | [],_,_,_,_,_,_,_,_,_,_,h=>h
 | o::l,seen,k,ts,hp,tr,yc,wr,yd,hs,hl,h=>by
  have ho:ops[k]? = some o:=by have:=hl 0;simpa using this.symm
  have BT:∀ j,j<k+1->((o.dst::seen)[k+1 - 1 - j]?).bind id=(ops[j]?).bind (·.dst):=λj hj=>by
   exact F8
  have zu:∀ i,l[i]? = ops[k+1+i]?:=λi=>by
   have:=hl (i+1);rw [qE] at this;rw [this];congr 1;omega
  simp only [pd] at h;simp only [sX]
  cases hw:po seen k o ts with
  | none=>rw [hw] at h;exact h.elim
  | some b =>
   rw [hw] at h;rw [IN hs hw]
   cases b with
   | true =>
    rw [KA] at h;refine NA (λe he=>⟨he.1,?_⟩) h;have he:=he.2
    cases o7:e.pan with
    | none=>rw [o7] at he;exact pf l _ _ _ _ _ _ _ _ BT zu he
    | some pv=>rw [o7] at he;exact ⟨λhd=>by simpa using he.1 hd,he.2⟩
   | false=>exact ⟨h.1,pf l _ _ _ _ _ _ _ _ BT zu h.2⟩
theorem VS {Ct:Ctx} {n:Nat} {d:List Deferred} {ro:Option Nat} {s:GS} {K:kV} {id:Nat} {l:og} (pn:List FuncId) (hm:P.follows .mixedOrders=true) (hB:Region.lexFrom .any l.toArray l.length 0 (Array.replicate l.length false)=true) (jL:(sO n l&&GJ P l)=true)
  (h:∀ (Q:QQ),(∀ ts hp tr yc,chk .any l.toArray tr=true->K .normal ⟨ts,hp,s.B+8*l.length,yc⟩->Q.q ts hp tr yc) ->
   (∀ pv tr,chk .any l.toArray tr=true->(∀ yc,K (.panic [{ v:=pv,recovered:=false }]) ⟨sW l s.ts,s.hp,s.B,yc⟩)->Q.p pv tr)->pd P Ct.G ⟨Ct.Y,pn,true⟩ s.B Q [] 0 l s.ts s.hp [] s.yc false false):GW P Ct n d ro (.region id l.toArray true) s K :=
 aav pn hm hB jL λQ Qp hQ Z7=>pf (Q:=⟨Q,Qp⟩) l [] 0 _ _ _ _ _ _ (λj hj=>absurd hj (uR j)) (λi=>zS) (h ⟨Q,Qp⟩ hQ Z7)
theorem iW {Ct:Ctx} {n:Nat} {d:List Deferred} {ro:Option Nat} {s:GS} {K:kV} {id:Nat} {l:og} (pn:List FuncId) (jL:(sO n l&&GJ P l)=true)
  (h:∀ (Q:QQ),(∀ ts hp tr yc,K .normal ⟨ts,hp,s.B+8*l.length,yc⟩->Q.q ts hp tr yc) ->
   (∀ pv tr,(∀ yc,K (.panic [{ v:=pv,recovered:=false }]) ⟨sW l s.ts,s.hp,s.B,yc⟩)->Q.p pv tr)->pd P Ct.G ⟨Ct.Y,pn,false⟩ s.B Q [] 0 l s.ts s.hp [] s.yc false false):GW P Ct n d ro (.region id l.toArray false) s K :=
 SY pn jL λQ Qp hQ Z7=>pf (Q:=⟨Q,Qp⟩) l [] 0 _ _ _ _ _ _ (λj hj=>absurd hj (uR j)) (λi=>zS) (h ⟨Q,Qp⟩ hQ Z7)

def Rk (C:Eff->Prop) (v:Value):Prop:=C (val v [])
@[simp] theorem aiT (v:Value):Rk C v=C (val v []):=nr rfl
def HB (P:Program) (G:Hp) (V:XV) (base:Nat) (Q:QQ) (seen:List (Option Tmp)) (k:Nat) (rest:og) (dst:Option Tmp) (ts:eM) (hp:Hp) (tr:Tr) (yc:Nat) (wr yd:Bool) (e:Eff):Prop :=
 (e.yl=true->e.ws=[]->yd=false)/\YP e.pan
    (pd P G V base Q (dst::seen) (k+1) rest (dk ts dst e.v) (bW hp (e.ws++e.ns)) (pR k (e.rs++ak e.ns) (ak e.ws++ak e.ns) tr) (if e.yl then yc+1 else yc) (wr||!e.ws.isEmpty) (yd||(e.yl&&e.ws.isEmpty)))
    (λpv=>(V.dr=true->rest.isEmpty=true)/\(wr||!e.ws.isEmpty)=false/\Q.p pv (pR k (e.rs++ak e.ns) (ak e.ws++ak e.ns) tr))
@[simp] theorem aiX (base:Nat) (Q:QQ) (seen:List (Option Tmp)) (k:Nat) (rest:og) (tr:Tr) (wr yd:Bool) (v:Value) (rs:List Nat):HB P G V base Q seen k rest dst ts hp tr yc wr yd (val v rs) =
 pd P G V base Q (dst::seen) (k+1) rest (dk ts dst v) hp (pR k rs [] tr) yc wr yd:=by simp [HB]
@[simp] theorem akT (base:Nat) (Q:QQ) (seen:List (Option Tmp)) (k:Nat) (rest:og) (tr:Tr) (wr yd:Bool) (v:Value) (rs:List Nat) (ws ns:bS):HB P G V base Q seen k rest dst ts hp tr yc wr yd ⟨v,rs,ws,ns,none,false⟩ =
 pd P G V base Q (dst::seen) (k+1) rest (dk ts dst v) (bW hp (ws++ns)) (pR k (rs++ak ns) (ak ws++ak ns) tr) yc (wr||!ws.isEmpty) yd:=by simp [HB]
@[simp] theorem akU (base:Nat) (Q:QQ) (seen:List (Option Tmp)) (k:Nat) (rest:og) (tr:Tr) (wr yd:Bool) (v:Value):HB P G V base Q seen k rest dst ts hp tr yc wr yd ⟨v,[],[],[],none,true⟩ =
 (yd=false/\pd P G V base Q (dst::seen) (k+1) rest (dk ts dst v) hp tr (yc+1) wr true):=by simp [HB]
@[simp] theorem amI (base:Nat) (Q:QQ) (seen:List (Option Tmp)) (k:Nat) (tr:Tr) (wr yd:Bool):pd P G V base Q seen k [] ts hp tr yc wr yd=Q.q ts hp tr yc:=nr rfl
@[simp] theorem ajC (base:Nat) (Q:QQ) (seen:List (Option Tmp)) (k:Nat) (tr:Tr) (wr yd:Bool) (op:Op) (rest:og):pd P G V base Q seen k (⟨dst,op,type,pos,after,guard⟩::rest) ts hp tr yc wr yd =
  Va (po seen k ⟨dst,op,type,pos,after,guard⟩ ts) (opX P G V yc ⟨dst,op,type,pos,after,guard⟩ ts hp (base+8*k) (HB P G V base Q seen k rest dst ts hp tr yc wr yd))
   (unD ⟨dst,op,type,pos,after,guard⟩ ts/\pd P G V base Q (dst::seen) (k+1) rest (dk ts dst undef) hp tr yc wr yd):=nr rfl

@[simp] theorem anK (x:Operand):unD ⟨dst,.move x,type,pos,after,guard⟩ ts=True:=nr rfl
@[simp] theorem anL (c:Operand) (x:Operand) (y:Operand):unD ⟨dst,.pick c x y,type,pos,after,guard⟩ ts=True:=nr rfl
@[simp] theorem aki (T:TypeId) (ps:Array (Nat×Operand)):unD ⟨dst,.build T ps,type,pos,after,guard⟩ ts=True:=nr rfl
@[simp] theorem anJ (T:TypeId) (x:Operand):unD ⟨dst,.load T x,type,pos,after,guard⟩ ts=True:=nr rfl
@[simp] theorem akh (b:BinOp) (T:TypeId) (x:Operand) (y:Operand) (T2:TypeId):unD ⟨dst,.binOp b T x y T2,type,pos,after,guard⟩ ts=True:=nr rfl
@[simp] theorem anM (u:UnOp) (T:TypeId) (x:Operand):unD ⟨dst,.unOp u T x,type,pos,after,guard⟩ ts=True:=nr rfl
@[simp] theorem aan (T:TypeId) (x:Operand) (f:Nat):unD ⟨dst,.fieldAddr T x f,type,pos,after,guard⟩ ts=True:=nr rfl
@[simp] theorem aao (T:TypeId) (x:Operand) (i:Operand):unD ⟨dst,.indexAddr T x i,type,pos,after,guard⟩ ts=True:=nr rfl
@[simp] theorem akl (t:Tmp) (a:Array Operand) (T:Array TypeId):unD ⟨dst,.call ⟨.value (.tmp t),a,T⟩,type,pos,after,guard⟩ ts=(ts t=undef):=nr rfl
@[simp] theorem akk (f:FuncId) (a:Array Operand) (T:Array TypeId):unD ⟨dst,.call ⟨.value (.func f),a,T⟩,type,pos,after,guard⟩ ts=True:=nr rfl
@[simp] theorem akj (b:Builtin) (a:Array Operand) (T:Array TypeId):unD ⟨dst,.call ⟨.builtin b,a,T⟩,type,pos,after,guard⟩ ts=True:=nr rfl

def ahb (u:Option TypeDesc) (T:TypeId) (v:Value) (C:Eff->Prop):Prop :=
 match u with
 | some (.interface _)=>False
 | some _=>C (val (.iface T v) [])
 | none=>False
@[simp ↓] theorem am4 (x:Operand):opX P G V yc ⟨dst,.move x,type,pos,after,guard⟩ ts hp nk C=(okX ts hp x/\C (val (gev ts x) [])):=nr rfl
@[simp ↓] theorem ahK (x:Operand):opX P G V yc ⟨dst,.assign x,type,pos,after,guard⟩ ts hp nk C=(okX ts hp x/\C (val (gev ts x) [])):=nr rfl
def Sq (ts:eM) (hp:Hp) (v:Value) (x y:Operand) (C:Eff->Prop):Prop :=
 match v with
 | .bool b=>(b=true->okX ts hp x)/\(b=false->okX ts hp y)/\C (val (if b then gev ts x else gev ts y) [])
 | _=>False
@[simp] theorem ahU (b:Bool) (x y:Operand):Sq ts hp (.bool b) x y C=((b=true->okX ts hp x)/\(b=false->okX ts hp y)/\C (val (if b then gev ts x else gev ts y) [])):=nr rfl
@[simp ↓] theorem am5 (c x y:Operand):opX P G V yc ⟨dst,.pick c x y,type,pos,after,guard⟩ ts hp nk C=(okX ts hp c/\Sq ts hp (gev ts c) x y C):=nr rfl
def KM (z:Option Value) (nk:Nat) (T:TypeId) (C:Eff->Prop):Prop :=
 match z with
 | some z=>cw z=true/\bz z=true/\C ⟨th nk,[],[],[(nk,⟨z.cells,T⟩)],none,false⟩
 | none=>False
@[simp] theorem ad0 (z:Value) (T:TypeId):KM (some z) nk T C=(cw z=true/\bz z=true/\C ⟨th nk,[],[],[(nk,⟨z.cells,T⟩)],none,false⟩):=nr rfl
@[simp ↓] theorem ajQ (T:TypeId):opX P G V yc ⟨dst,.alloc T,type,pos,after,guard⟩ ts hp nk C=KM (cT P T) nk T C:=nr rfl
@[simp ↓] theorem apo (T:TypeId) (x:Operand):opX P G V yc ⟨dst,.box T x,type,pos,after,guard⟩ ts hp nk C=(okX ts hp x/\cw (gev ts x)=true/\C ⟨th nk,[],[],[(nk,⟨(gev ts x).cells,T⟩)],none,false⟩):=nr rfl
def H8 (v:Option Value) (k:Nat) (C:Eff->Prop):Prop :=
 match v with
 | some v=>C (val v [k])
 | none=>False
@[simp] theorem aeV (v:Value) (k:Nat):H8 (some v) k C=C (val v [k]):=nr rfl
def H7 (P:Program) (T:TypeId) (b:Option Blk) (k off:Nat) (C:Eff->Prop):Prop :=
 match b with
 | some b=>H8 (ft P T b off) k C
 | none=>False
@[simp] theorem sZ (T t:TypeId) (c:bV) (off:Nat):ft P T ⟨c,.ty t⟩ off=eh P T c off:=nr rfl
@[simp] theorem aeU (T:TypeId) (b:Blk) (k off:Nat):H7 P T (some b) k off C=H8 (ft P T b off) k C:=nr rfl
def R5 (P:Program) (T:TypeId) (hp:Hp) (v:Value) (C:Eff->Prop):Prop :=
 match v with
 | .pointer (some ⟨k,off,none⟩)=>H7 P T (hp k) k off C
 | _=>False
@[simp] theorem ajG (T:TypeId) (k off:Nat):R5 P T hp (.pointer (some ⟨k,off,none⟩)) C=H7 P T (hp k) k off C:=nr rfl
@[simp ↓] theorem am3 (T:TypeId) (x:Operand):opX P G V yc ⟨dst,.load T x,type,pos,after,guard⟩ ts hp nk C=(okX ts hp x/\R5 P T hp (gev ts x) C):=nr rfl
def Ax (P:Program) (T:TypeId) (b:Option Blk) (k off:Nat) (w:Value) (C:Eff->Prop):Prop :=
 match b with
 | some b=>b.T.own=true/\cw w=true/\bA P T=some w.cells.size/\off+w.cells.size<=b.c.size/\100<=k/\C ⟨undef,[k],[(k,⟨gh b.c off w.cells.toList,b.T⟩)],[],none,false⟩
 | none=>False
@[simp] theorem adw (T:TypeId) (c:bV) (T':BTy) (k off:Nat) (w:Value):Ax P T (some ⟨c,T'⟩) k off w C=(BTy.own T'=true/\cw w=true/\bA P T=some w.cells.size/\off+w.cells.size<=c.size/\100<=k/\C ⟨undef,[k],[(k,⟨gh c off w.cells.toList,T'⟩)],[],none,false⟩):=nr rfl
def LK (P:Program) (T:TypeId) (hp:Hp) (v w:Value) (C:Eff->Prop):Prop :=
 match v with
 | .pointer (some ⟨k,off,none⟩)=>Ax P T (hp k) k off w C
 | _=>False
@[simp] theorem ain (T:TypeId) (k off:Nat) (w:Value):LK P T hp (.pointer (some ⟨k,off,none⟩)) w C=Ax P T (hp k) k off w C:=nr rfl
@[simp ↓] theorem ajY (T:TypeId) (x y:Operand):opX P G V yc ⟨dst,.store T x y,type,pos,after,guard⟩ ts hp nk C=(okX ts hp x/\okX ts hp y/\LK P T hp (gev ts x) (gev ts y) C):=nr rfl
@[simp ↓] theorem ae5 (T:TypeId) (y:Option Operand):opX P G V yc ⟨dst,.makeMap T y,type,pos,after,guard⟩ ts hp nk C=(y.isNone=true/\C ⟨.map (some nk),[],[],[(nk,mpB [])],none,false⟩):=nr rfl
@[simp] theorem ak6 (f:Fn) (a b:bV):fnV (.func f a b)=true:=nr rfl
@[simp] theorem ahc (l:List (ByteArray×Value)) (k:Nat) (s:ByteArray) (v:Value):J6 (some (mpB l)) k s v C=(gH s l=none/\100<=k/\C ⟨undef,[k],[(k,mpB (l++[(s,v)]))],[],none,false⟩):=by simp [J6,Ns]
@[simp] theorem amp (q:Nat) (s:ByteArray) (v:Value):Nd hp (.map (some q)) (.string s) v C=J6 (hp q) q s v C:=nr rfl
@[simp ↓] theorem ahM (T:TypeId) (m k x:Operand):opX P G V yc ⟨dst,.insert T m k x,type,pos,after,guard⟩ ts hp nk C=(okX ts hp m/\okX ts hp k/\okX ts hp x/\Ka P T (gev ts k)=true/\fnV (gev ts x)=true/\Nd hp (gev ts m) (gev ts k) (gev ts x) C):=nr rfl
@[simp] theorem apc (T:TypeId) (s:ByteArray):Ka P T (.string s)=tM P T:=nr rfl
@[simp] theorem apb (T:TypeId) (k:IntKind) (i:Int):Ka P T (.int k i)=Ay P T:=nr rfl
@[simp] theorem P4 (l:List (Int×Value)) (k:Nat) (s:Int) (v:Value):HZ (some (muB l)) k s v C=(jT s l=none/\100<=k/\C ⟨undef,[k],[(k,muB (l++[(s,v)]))],[],none,false⟩):=by simp [HZ,Nu]
@[simp] theorem ajy (k:Nat) (s:Int) (v:Value):HZ (some (mpB [])) k s v C=(100<=k/\C ⟨undef,[k],[(k,muB [(s,v)])],[],none,false⟩):=by rw [acx,P4];simp [jT]
@[simp] theorem ajz (q:Nat) (s:Int) (v:Value):Nd hp (.map (some q)) (.int .u8 s) v C=HZ (hp q) q s v C:=nr rfl
def X6 (v:Option Value) (k:Nat) (C:Eff->Prop):Prop:=match v with
 | some v=>fnV v=true/\C (val v [k])
 | none=>False
@[simp] theorem ajF (v:Value) (k:Nat):X6 (some v) k C=(fnV v=true/\C (val v [k])):=nr rfl
@[simp] theorem ajE (l:List (ByteArray×Value)) (k:Nat) (s:ByteArray):Ud (some (mpB l)) k s C=X6 (gH s l) k C:=by unfold Ud X6;rw [lC,Ns];rfl
@[simp] theorem ape (q:Nat) (s:ByteArray):lkX hp (.map (some q)) (.string s) C=Ud (hp q) q s C:=nr rfl
@[simp] theorem ajD (l:List (Int×Value)) (k:Nat) (s:Int):Uc (some (muB l)) k s C=X6 (jT s l) k C:=by unfold Uc X6;rw [lC,Nu];rfl
@[simp] theorem amJ (q:Nat) (s:Int):lkX hp (.map (some q)) (.int .u8 s) C=Uc (hp q) q s C:=nr rfl
@[simp ↓] theorem ahN (T:TypeId) (x i:Operand) (ok:Bool):opX P G V yc ⟨dst,.lookup T x i ok,type,pos,after,guard⟩ ts hp nk C=(okX ts hp x/\okX ts hp i/\ok=false/\Ka P T (gev ts i)=true/\lkX hp (gev ts x) (gev ts i) C):=nr rfl
def sQ (v:Option Value) (C:Eff->Prop):Prop :=
 match v with
 | some v=>jH v=true/\C (val v [])
 | none=>False
@[simp] theorem W2 (v:Value):sQ (some v) C=(jH v=true/\C (val v [])):=nr rfl
def zI (v:Value) (i:Nat) (C:Eff->Prop):Prop :=
 match v with
 | .tuple vs=>sQ vs[i]? C
 | _=>False
@[simp] theorem W4 (vs:bV) (i:Nat):zI (.tuple vs) i C=sQ vs[i]? C:=nr rfl
@[simp ↓] theorem ae4 (x:Operand) (i:Nat):opX P G V yc ⟨dst,.extract x i,type,pos,after,guard⟩ ts hp nk C=(okX ts hp x/\zI (gev ts x) i C):=nr rfl
def HX (s:Option Nat) (k off:Nat) (m:Int) (C:Eff->Prop):Prop :=
 match s with
 | some s=>C (val (.pointer (some ⟨k,off+m.toNat*s,none⟩)) [])
 | none=>False
@[simp] theorem ag7 (s k off:Nat) (m:Int):HX (some s) k off m C=C (val (.pointer (some ⟨k,off+m.toNat*s,none⟩)) []):=nr rfl
def M8 (P:Program) (v:Value) (len:Nat) (e:TypeId) (m:Int) (C:Eff->Prop):Prop :=
 match v with
 | .pointer (some ⟨k,off,none⟩)=>(0<=m/\m<len)/\HX (bA P e) k off m C
 | _=>False
@[simp] theorem ajx (k off len:Nat) (e:TypeId) (m:Int):M8 P (.pointer (some ⟨k,off,none⟩)) len e m C=((0<=m/\m<len)/\HX (bA P e) k off m C):=nr rfl
def Na (P:Program) (v:Value) (e:TypeId) (m:Int) (C:Eff->Prop):Prop :=
 match v with
 | .slice (some ⟨k,off,none⟩) len _=>(0<=m/\m<len)/\HX (bA P e) k off m C
 | _=>False
@[simp] theorem aeR (k off len cap:Nat) (e:TypeId) (m:Int):Na P (.slice (some ⟨k,off,none⟩) len cap) e m C=((0<=m/\m<len)/\HX (bA P e) k off m C):=nr rfl
def TX (P:Program) (u:Option TypeDesc) (v:Value) (m:Int) (C:Eff->Prop):Prop :=
 match u with
 | some (.array len e)=>M8 P v len e m C
 | some (.slice e)=>Na P v e m C
 | _=>False
@[simp] theorem ag8 (len:Nat) (e:TypeId) (v:Value) (m:Int):TX P (some (.array len e)) v m C=M8 P v len e m C:=nr rfl
@[simp] theorem aha (e:TypeId) (v:Value) (m:Int):TX P (some (.slice e)) v m C=Na P v e m C:=nr rfl
def RU (P:Program) (T:TypeId) (i v:Value) (C:Eff->Prop):Prop :=
 match i with
 | .int _ m=>TX P (P.underlying T) v m C
 | _=>False
@[simp] theorem ajw (T:TypeId) (k:IntKind) (m:Int) (v:Value):RU P T (.int k m) v C=TX P (P.underlying T) v m C:=nr rfl
@[simp ↓] theorem ajV (T:TypeId) (x i:Operand):opX P G V yc ⟨dst,.indexAddr T x i,type,pos,after,guard⟩ ts hp nk C=(okX ts hp x/\okX ts hp i/\RU P T (gev ts i) (gev ts x) C):=nr rfl
def Jd (ts:eM) (args:Array Operand):List Value:=args.toList.map (gev ts)
@[simp] theorem aoy (l:List Operand):Jd ts l.toArray=l.map (gev ts):=by simp [Jd]
def ui (P:Program) (e:TypeId) (s:Option Nat) (v:Value) (m:Int) (C:Eff->Prop):Prop :=
 match s with
 | some s=>match v with
  | .agg cs=>unX' (eh P e cs (m.toNat*s)) C
  | _=>False
 | none=>False
where unX' (v:Option Value) (C:Eff->Prop):Prop :=
 match v with
 | some v=>C (val v [])
 | none=>False
@[simp] theorem ajv (e:TypeId) (s:Nat) (cs:bV) (m:Int):ui P e (some s) (.agg cs) m C=ui.unX' (eh P e cs (m.toNat*s)) C:=nr rfl
@[simp] theorem ao6 (v:Value):ui.unX' (some v) C=C (val v []):=nr rfl
@[congr] theorem aah {v v':Option Value} (h:v=v'):ui.unX' v C=ui.unX' v' C:=eO
@[congr] theorem ag6 {e:TypeId} {s s':Option Nat} {v v':Value} {m m':Int} (h1:s=s') (h2:v=v') (h3:m=m'):ui P e s v m C=ui P e s' v' m' C:=by rw [h1,h2,h3]
def M6 (s:ByteArray) (m:Int) (C:Eff->Prop):Prop :=
 match (if 0<=m then s[m.toNat]? else none) with
 | some b=>C (val (.int .u8 b.toNat) [])
 | none=>False
def J2 (v:Value) (m:Int) (C:Eff->Prop):Prop :=
 match v with
 | .string s=>M6 s m C
 | _=>False
@[simp] theorem aju (s:ByteArray) (m:Int):J2 (.string s) m C=M6 s m C:=nr rfl
@[congr] theorem aeM {v v':Value} {m m':Int} (h1:v=v') (h2:m=m'):J2 v m C=J2 v' m' C:=ml
@[congr] theorem ag5 {s s':ByteArray} {m m':Int} (h1:s=s') (h2:m=m'):M6 s m C=M6 s' m' C:=ml
theorem ab4 {s:ByteArray} {m:Int} {b:UInt8} (h0:0<=m) (h:s[m.toNat]? = some b):M6 s m C=C (val (.int .u8 b.toNat) []):=by simp [M6,h0,h]
def P3 (P:Program) (u:Option TypeDesc) (v:Value) (m:Int) (C:Eff->Prop):Prop :=
 match u with
 | some (.array len e)=>(0<=m/\m<len)/\ui P e (bA P e) v m C
 | some .string=>J2 v m C
 | _=>False
@[simp] theorem amm (v:Value) (m:Int):P3 P (some .string) v m C=J2 v m C:=nr rfl
@[simp] theorem aml (len:Nat) (e:TypeId) (v:Value) (m:Int):P3 P (some (.array len e)) v m C=((0<=m/\m<len)/\ui P e (bA P e) v m C):=nr rfl
@[congr] theorem ag4 {u u':Option TypeDesc} {v v':Value} {m m':Int} (h1:u=u') (h2:v=v') (h3:m=m'):P3 P u v m C=P3 P u' v' m' C:=by rw [h1,h2,h3]
def XN (P:Program) (T:TypeId) (i v:Value) (C:Eff->Prop):Prop :=
 match i with
 | .int _ m=>P3 P (P.underlying T) v m C
 | _=>False
@[simp] theorem amk (T:TypeId) (k:IntKind) (m:Int) (v:Value):XN P T (.int k m) v C=P3 P (P.underlying T) v m C:=nr rfl
@[congr] theorem ag3 {T:TypeId} {i i' v v':Value} (h1:i=i') (h2:v=v'):XN P T i v C=XN P T i' v' C:=ml
@[simp ↓] theorem ahL (T:TypeId) (x i:Operand):opX P G V yc ⟨dst,.index T x i,type,pos,after,guard⟩ ts hp nk C=(okX ts hp x/\okX ts hp i/\XN P T (gev ts i) (gev ts x) C):=by
 simp only [opX,XN];congr 2;cases gev ts i<;>first|rfl|skip
 unfold P3;simp only
 cases hu:P.underlying T with
 | none=>rfl
 | some u =>
  cases u<;>first|rfl|skip
  ·simp only;unfold ui;cases hg:gev ts x<;>cases hs:bA P _<;>first|rfl|(simp;done)|skip
   all_goals (simp only [ui.unX'];cases eh P _ _ _<;>rfl)
  all_goals (simp only;unfold J2 M6;cases gev ts x<;>rfl)
def Xc (P:Program) (f:Option (TypeId×Nat)) (v:Value) (C:Eff->Prop):Prop :=
 match f with
 | some (t,off)=>match v with
  | .agg cs=>ui.unX' (eh P t cs off) C
  | _=>False
 | none=>False
@[simp] theorem ajc (t:TypeId) (off:Nat) (cs:bV):Xc P (some (t,off)) (.agg cs) C=ui.unX' (eh P t cs off) C:=nr rfl
@[congr] theorem agb {f f':Option (TypeId×Nat)} {v v':Value} (h1:f=f') (h2:v=v'):Xc P f v C=Xc P f' v' C:=ml
@[simp ↓] theorem ajT (T:TypeId) (x:Operand) (f:Nat):opX P G V yc ⟨dst,.field T x f,type,pos,after,guard⟩ ts hp nk C=(okX ts hp x/\Xc P (fdX P T f) (gev ts x) C):=by
 simp only [opX,Xc];congr 1
def abo (f:Option (TypeId×Nat)) (v:Value) (C:Eff->Prop):Prop :=
 match f with
 | some (_,off)=>match v with
  | .pointer (some ⟨k,o,none⟩)=>C (val (.pointer (some ⟨k,o+off,none⟩)) [])
  | _=>False
 | none=>False
@[simp] theorem ai3 (t:TypeId) (off k o:Nat):abo (some (t,off)) (.pointer (some ⟨k,o,none⟩)) C=C (val (.pointer (some ⟨k,o+off,none⟩)) []):=nr rfl
@[congr] theorem af3 {f f':Option (TypeId×Nat)} {v v':Value} (h1:f=f') (h2:v=v'):abo f v C=abo f' v' C:=ml
@[simp] theorem atY (k o:Nat):ncX (.pointer (some ⟨k,o,none⟩)) C=C (val (.pointer (some ⟨k,o,none⟩)) []):=nr rfl
@[congr] theorem ajM {v v':Value} (h:v=v'):ncX v C=ncX v' C:=eO
@[simp ↓] theorem acS (x:Operand):opX P G V yc ⟨dst,.nilCheck x,type,pos,after,guard⟩ ts hp nk C=(okX ts hp x/\ncX (gev ts x) C):=nr rfl
@[simp ↓] theorem aaj (T:TypeId) (x:Operand) (f:Nat):opX P G V yc ⟨dst,.fieldAddr T x f,type,pos,after,guard⟩ ts hp nk C=(okX ts hp x/\abo (fdX P T f) (gev ts x) C):=nr rfl
def Xl (ts:eM) (o:Option Operand):Option Value:=o.map (gev ts)
@[simp] theorem aje (x:Operand):Xl ts (some x)=some (gev ts x):=nr rfl
@[simp] theorem ajd:Xl ts none=none:=nr rfl
@[simp ↓] theorem ajX (T:TypeId) (x:Operand) (lo hi mx:Option Operand):opX P G V yc ⟨dst,.slice T x lo hi mx,type,pos,after,guard⟩ ts hp nk C =
 (okX ts hp x/\(∀ y∈lo.toList,okX ts hp y)/\(∀ y∈hi.toList,okX ts hp y)/\mx.isNone=true/\ui.unX' (slX P T (gev ts x) (Xl ts lo) (Xl ts hi)) C):=by
 simp only [opX,Xl];cases slX P T (gev ts x) (lo.map (gev ts)) (hi.map (gev ts))<;>rfl
def slU (P:Program) (u:Option TypeDesc) (v:Value) (lo hi:Option Value):Option Value :=
 match u with
 | some (.array n e)=>match v with
  | .pointer (some ⟨k,off,none⟩)=>match bA P e with
   | some s=>slV (some (k,off)) s n (la n n lo hi)
   | none=>none
  | _=>none
 | some (.slice e)=>match v with
  | .slice (some ⟨k,off,none⟩) n c=>match bA P e with
   | some s=>slV (some (k,off)) s c (la n c lo hi)
   | none=>none
  | .slice none n c=>match bA P e with
   | some s=>slV none s c (la n c lo hi)
   | none=>none
  | _=>none
 | some .string=>match v with
  | .string s=>slS s (la s.size s.size lo hi)
  | _=>none
 | _=>none
@[simp] theorem ast (T:TypeId) (v:Value) (lo hi:Option Value):slX P T v lo hi=slU P (P.underlying T) v lo hi:=nr rfl
def slZ (a:Option (Nat×Nat)) (s:Option Nat) (c:Nat) (p:Option (Nat×Nat)):Option Value :=
 match s with
 | some s=>slV a s c p
 | none=>none
@[simp] theorem anz (a:Option (Nat×Nat)) (s c:Nat) (p:Option (Nat×Nat)):slZ a (some s) c p=slV a s c p:=nr rfl
@[simp] theorem apC (n:Nat) (e:TypeId) (k off:Nat) (lo hi:Option Value):slU P (some (.array n e)) (.pointer (some ⟨k,off,none⟩)) lo hi=slZ (some (k,off)) (bA P e) n (la n n lo hi):=nr rfl
@[simp] theorem akc (e:TypeId) (k off n c:Nat) (lo hi:Option Value):slU P (some (.slice e)) (.slice (some ⟨k,off,none⟩) n c) lo hi=slZ (some (k,off)) (bA P e) c (la n c lo hi):=nr rfl
@[simp] theorem anx (k off s c l h:Nat):slV (some (k,off)) s c (some (l,h))=some (.slice (some ⟨k,if c=l then off else off+l*s,none⟩) (h - l) (c - l)):=nr rfl
@[simp] theorem alD (len cap:Nat):hiG len cap none=some len:=nr rfl
@[simp] theorem alE (len cap:Nat) (k:IntKind) (m:Int):hiG len cap (some (.int k m))=if 0<=m/\m<=cap then some m.toNat else none:=nr rfl
@[simp] theorem amK (h:Nat):loG h none=some 0:=nr rfl
@[simp] theorem amL (h:Nat) (k:IntKind) (m:Int):loG h (some (.int k m))=if 0<=m/\m<=h then some m.toNat else none:=nr rfl
def Zk (lo:Option Value) (h:Option Nat):Option (Nat×Nat) :=
 match h with
 | none=>none
 | some h=>(loG h lo).map λl=>(l,h)
@[simp] theorem akd (len cap:Nat) (lo hi:Option Value):la len cap lo hi=Zk lo (hiG len cap hi):=nr rfl
@[simp] theorem afi (lo:Option Value) (h:Nat):Zk lo (some h)=(loG h lo).map λl=>(l,h):=nr rfl
@[simp ↓] theorem apm (T:TypeId) (x:Operand):opX P G V yc ⟨dst,.sliceToArrayPointer T x,type,pos,after,guard⟩ ts hp nk C=(okX ts hp x/\ui.unX' (Th P T (gev ts x)) C):=by
 simp only [opX];cases Th P T (gev ts x)<;>rfl
def akF (u:Option TypeDesc) (v:Value):Option Value :=
 match u with
 | some (.array n _)=>match v with
  | .slice a len _=>if n<=len then some (.pointer a) else none
  | _=>none
 | _=>none
@[simp] theorem aof (T:TypeId) (v:Value):Th P T v=akF (P.underlying T) v:=nr rfl
@[simp] theorem akG (n:Nat) (e:TypeId) (a:OV) (len c:Nat):akF (some (.array n e)) (.slice a len c)=if n<=len then some (.pointer a) else none:=nr rfl
def amH (u:Option TypeDesc) (v:Value):Option Value :=
 match u with
 | some .string=>match v with
  | .string s=>some (.int .i64 s.size)
  | _=>none
 | some (.array n _)=>some (.int .i64 n)
 | some (.slice _)=>match v with
  | .slice _ n _=>some (.int .i64 n)
  | _=>none
 | _=>none
@[simp] theorem apd (T:TypeId) (v:Value):T9 P T v=amH (P.underlying T) v:=nr rfl
@[simp] theorem ahn (e:TypeId) (a:OV) (n c:Nat):amH (some (.slice e)) (.slice a n c)=some (.int .i64 n):=nr rfl
@[simp ↓] theorem apq (x:Operand) (T:TypeId):opX P G V yc ⟨dst,.call ⟨.builtin .len,#[x],#[T]⟩,type,pos,after,guard⟩ ts hp nk C=(okX ts hp x/\ui.unX' (T9 P T (gev ts x)) C):=by
 simp only [opX,JA,AR];simp;intro _;cases T9 P T (gev ts x)<;>rfl
@[simp] theorem apf (k k':IntKind) (a c:Int):Kc true (.int k a) (.int k' c)=some (.int k (if a<c then c else a)):=nr rfl
def amN (b:Bool) (z:Option Value) (l:List Value):Option Value :=
 match z with
 | some z=>zb b z l
 | none=>none
@[simp] theorem ajJ (b:Bool) (z:Value) (l:List Value):amN b (some z) l=zb b z l:=nr rfl
@[simp] theorem amM (b:Bool) (k:IntKind) (a:Int):zb b (.int k a) []=some (.int k a):=nr rfl
@[simp] theorem ajH (b:Bool) (x y:Value) (l:List Value):zb b x (y::l)=amN b (Kc b x y) l:=nr rfl
@[simp] theorem ajI (b:Bool) (x:Value) (l:List Value):Ia b (x::l)=zb b x l:=nr rfl
@[simp ↓] theorem apr (l:List Operand) (T:Array TypeId):opX P G V yc ⟨dst,.call ⟨.builtin .max,l.toArray,T⟩,type,pos,after,guard⟩ ts hp nk C=((∀ x∈l,okX ts hp x)/\ui.unX' (Ia true (Jd ts l.toArray)) C):=by
 simp only [opX,JA,AR,Jd];cases Ia true (l.map (gev ts))<;>rfl
@[simp ↓] theorem aps (l:List Operand) (T:Array TypeId):opX P G V yc ⟨dst,.call ⟨.builtin .min,l.toArray,T⟩,type,pos,after,guard⟩ ts hp nk C=((∀ x∈l,okX ts hp x)/\ui.unX' (Ia false (Jd ts l.toArray)) C):=by
 simp only [opX,JA,AR,Jd];cases Ia false (l.map (gev ts))<;>rfl
def pnX (v:Value) (C:Eff->Prop):Prop :=
 match v with
 | .iface T u=>C ⟨eY,[],[],[],some (.iface T u),false⟩
 | _=>False
@[simp ↓] theorem ajW (x:Operand):opX P G V yc ⟨dst,.panic x,type,pos,after,guard⟩ ts hp nk C=(okX ts hp x/\bz (gev ts x)=true/\pnX (gev ts x) C):=nr rfl
@[congr] theorem aj1 {v v':Value} (h:v=v'):pnX v C=pnX v' C:=eO
@[simp] theorem am7 (v:Value):(Out.ret v).eff=val v []:=nr rfl
@[simp ↓] theorem acR (fn:Fn) (first cap:Array Operand):opX P G V yc ⟨dst,.makeFunc fn first cap,type,pos,after,guard⟩ ts hp nk C =
 ((∀ x∈first.toList,okX ts hp x/\da (gev ts x)=true)/\(∀ x∈cap.toList,okX ts hp x/\da (gev ts x)=true)/\C (val (.func fn (first.map (gev ts)) (cap.map (gev ts))) [])):=nr rfl
def Pb (P:Program) (v:Option Value) (o:Oper) (ts:eM) (hp:Hp) (C:Eff->Prop):Prop :=
 match v with
 | some v=>C (val v [])
 | none=>Kl P o ts hp λv=>C (val v [])
@[simp] theorem aiO (v:Value) (o:Oper):Pb P (some v) o ts hp C=C (val v []):=nr rfl
@[simp ↓] theorem apn (op:BinOp) (T yT:TypeId) (x y:Operand):opX P G V yc ⟨dst,.binOp op T x y yT,type,pos,after,guard⟩ ts hp nk C =
 (okX ts hp x/\okX ts hp y/\Pb P (vc P op T (gev ts x) (gev ts y)) ⟨dst,.binOp op T x y yT,type,pos,after,guard⟩ ts hp C):=nr rfl
def unX (v:Option Value) (C:Eff->Prop):Prop :=
 match v with
 | some v=>C (val v [])
 | none=>False
@[simp] theorem anN (v:Value):unX (some v) C=C (val v []):=nr rfl
@[simp ↓] theorem ase (op:UnOp) (T:TypeId) (x:Operand):opX P G V yc ⟨dst,.unOp op T x,type,pos,after,guard⟩ ts hp nk C=(okX ts hp x/\unX (un1 op (gev ts x)) C):=nr rfl
@[simp ↓] theorem am2 (S T:TypeId) (x:Operand):opX P G V yc ⟨dst,.convert S T x,type,pos,after,guard⟩ ts hp nk C=(okX ts hp x/\Pb P (zF P S T (gev ts x)) ⟨dst,.convert S T x,type,pos,after,guard⟩ ts hp C):=nr rfl
@[simp] theorem apj (t:Tmp):okT ts (.tmp t)=nj (ts t):=nr rfl
@[simp] theorem amW (f:FuncId):okT ts (.func f)=True:=nr rfl
def yJ (b:Bool) (x y:Prop):Prop :=
 match b with
 | true=>x
 | false=>y
@[simp] theorem Qn (x y:Prop):yJ true x y=x:=nr rfl
@[simp] theorem ae9 (x y:Prop):yJ false x y=y:=nr rfl
@[congr] theorem ae8 {b b':Bool} {x y:Prop} (h:b=b'):yJ b x y=yJ b' x y:=eO
def BL (l:List Value):Array Value:=l.toArray
@[simp] theorem akE (l:List Value):BL l=l.toArray:=nr rfl
def yR (P:Program) (G:Hp) (V:XV) (nk yc:Nat) (ts:eM) (hp:Hp) (v:Value) (args:Array Operand) (C:Eff->Prop):Prop:=xY P G V nk yc ts hp v args C
@[congr] theorem aaZ {v v':Value} {args:Array Operand} (h:v=v'):yR P G V nk yc ts hp v args C=yR P G V nk yc ts hp v' args C:=eO
def Hz (P:Program) (G:Hp) (V:XV) (nk:Nat) (hp:Hp) (g:FuncId) (l:List Value) (cap:List Value) (C:Eff->Prop):Prop :=
 yJ (cap.isEmpty&&!V.pn.contains g&&l.all bz) (yJ (V.pn.contains (g+1000000)) (Hy P G g (BL l) C) (cu P G g (BL l) (Rk C))) (cap.all da=true/\pI P G g (BL (l++cap)) hp nk C)
@[congr] theorem aa1 {g:FuncId} {l l' cap cW:List Value} (h:l=l') (h':cap=cW):Hz P G V nk hp g l cap C=Hz P G V nk hp g l' cW C:=by rw [h,h']
@[simp] theorem aiU (g:FuncId) (l cap:List Value):Hz P G V nk hp g l cap C=yJ (cap.isEmpty&&!V.pn.contains g&&l.all bz) (yJ (V.pn.contains (g+1000000)) (Hy P G g (BL l) C) (cu P G g (BL l) (Rk C))) (cap.all da=true/\pI P G g (BL (l++cap)) hp nk C):=nr rfl
@[simp] theorem ad6 (g:FuncId) (args:List Operand) (mP:List Value):yR P G V nk yc ts hp (.func (.func g) #[] mP.toArray) args.toArray C=((∀ x∈args,okX ts hp x)/\Hz P G V nk hp g (Jd ts args.toArray) mP C):=by
 have e:(Array.map (gev ts) args.toArray)=(args.map (gev ts)).toArray:=zS;have ea:((args.map (gev ts)).toArray++mP.toArray)=(args.map (gev ts)++mP).toArray:=zS;unfold yR xY Hz Rk Jd BL;simp only [e,ea,qJ,gP,true_and];congr 1;by_cases h:mP=[]/\V.pn.contains g=false/\(args.map (gev ts)).all bz=true
 ·obtain ⟨h1,h2,h3⟩:=h;subst h1;have h4:(args.map (gev ts)).toArray.all bz=true:=by simpa using h3
  rw [ai ⟨rfl,h2,h4⟩];simp only [List.isEmpty_nil,h2,h3,jo,Bool.and_self,Qn];cases V.pn.contains (g+1000000)<;>simp [yJ]
 ·rw [ab (by
   rintro ⟨h1,h2,h3⟩;exact h ⟨List.eq_nil_of_length_eq_zero h1,h2,by simpa using h3⟩)]
  have hb:(mP.isEmpty&&!V.pn.contains g&&(args.map (gev ts)).all bz)=false:=by
   cases hb:(mP.isEmpty&&!V.pn.contains g&&(args.map (gev ts)).all bz) with
   | false=>rfl
   | true =>
    simp only [bO,List.isEmpty_iff,nP] at hb;exact absurd ⟨hb.1.1,hb.1.2,hb.2⟩ h
  simp only [hb,yJ];simp
def Bx (Y:Option YG) (yc l:Nat) (hp:Hp) (args:List Value) (C:Eff->Prop):Prop:=IS Y yc l hp args.toArray C
theorem Wa {y:YG} (h:y.sh=none) (l:List Value):l.toArray.map y.act=l.toArray:=by
 have:y.act=id:=by funext v;unfold YG.act;rw [h];rfl
 rw [this];simp
@[simp] theorem afw (l':Nat) (xs:List (Array Value)) (st l:Nat) (args:List Value):Bx (some ⟨l',xs,st,none,none⟩) yc l hp args C=(l=l'/\yc<=st/\(∀ v∈args,bz v=true)/\xs[yc]? = some args.toArray/\C ⟨.bool (yc != st),[],[],[],none,true⟩):=by
 have:(YG.mk l' xs st none none).pan yc=none:=by unfold YG.pan;split<;>rfl
 simp only [Bx,IS,Bw,this,Wa,YG.arg,YG.lies,true_and]
def aiJ (b:Bool) (pv:Value):Eff:=if b then ⟨eY,[],[],[],some pv,true⟩ else ⟨.bool true,[],[],[],none,true⟩
def yC (C:Eff->Prop) (b:Bool) (pv:Value):Prop:=C (aiJ b pv)
@[congr] theorem an9 {b b':Bool} {pv:Value} (h:b=b'):yC C b pv=yC C b' pv:=eO
@[congr] theorem adY {Y Y':Option YG} {xS l:Nat} {args fL:List Value} (h0:Y=Y') (h1:yc=xS) (h:args=fL):Bx Y yc l hp args C=Bx Y' xS l hp fL C:=by rw [h0,h1,h]
@[simp] theorem aa0 (l:Nat) (args:List Operand):yR P G V nk yc ts hp (.func (.yield l) #[] #[]) args.toArray C=((∀ x∈args,okT ts x)/\Bx V.Y yc l hp (Jd ts args.toArray) C):=by
 have e:(Array.map (gev ts) args.toArray)=(args.map (gev ts)).toArray:=zS;unfold yR xY Bx Jd;simp only [e,qJ,gP,true_and]
@[simp ↓] theorem am1 (f:Operand) (args:Array Operand) (argTypes:Array TypeId):opX P G V yc ⟨dst,.call ⟨.value f,args,argTypes⟩,type,pos,after,guard⟩ ts hp nk C=(okT ts f/\yR P G V nk yc ts hp (gev ts f) args C):=nr rfl
@[congr] theorem ad5 {f f':FuncId} {args fL:bV} (hf:f=f') (h:args=fL):Hy P G f args C=Hy P G f' fL C:=by rw [hf,h]
@[congr] theorem ad4 {f f':FuncId} {args fL:bV} {K:iQ} (hf:f=f') (h:args=fL):cu P G f args K=cu P G f' fL K:=by rw [hf,h]
@[simp ↓] theorem ajU (T:TypeId) (x:Operand):opX P G V yc ⟨dst,.makeInterface T x,type,pos,after,guard⟩ ts hp nk C=(okX ts hp x/\da (gev ts x)=true/\ahb (P.underlying T) T (gev ts x) C):=nr rfl
def bsX (o:Option (Array Value)) (e:TypeId) (len nk:Nat) (C:Eff->Prop):Prop :=
 match o with
 | some cs=>C ⟨.slice (some ⟨nk,0,none⟩) len len,[],[],[(nk,⟨cs,e⟩)],none,false⟩
 | none=>False
@[simp] theorem akO (cs:bV) (e:TypeId) (len:Nat):bsX (some cs) e len nk C=C ⟨.slice (some ⟨nk,0,none⟩) len len,[],[],[(nk,⟨cs,e⟩)],none,false⟩:=nr rfl
def buX (pl:Option (List (Nat×Nat) ⊕ Nat)) (z:Value) (parts:List (Nat×Value)) (C:Eff->Prop):Prop :=
 match pl with
 | some pl=>unX ((n6 pl z.cells parts).map .agg) C
 | none=>False
@[simp] theorem Wr (pl:List (Nat×Nat) ⊕ Nat) (z:Value) (parts:List (Nat×Value)):buX (some pl) z parts C=unX ((n6 pl z.cells parts).map .agg) C:=nr rfl
def Hv (P:Program) (T:TypeId) (z:Option Value) (parts:List (Nat×Value)) (C:Eff->Prop):Prop :=
 match z with
 | some z=>cw z=true/\bz z=true/\buX (eL P T) z parts C
 | none=>False
@[simp] theorem ad3 (T:TypeId) (z:Value) (parts:List (Nat×Value)):Hv P T (some z) parts C=(cw z=true/\bz z=true/\buX (eL P T) z parts C):=nr rfl
@[simp ↓] theorem ajR (T:TypeId) (parts:Array (Nat×Operand)):opX P G V yc ⟨dst,.build T parts,type,pos,after,guard⟩ ts hp nk C =
  ((∀ p∈parts.toList,okX ts hp p.2/\cw (gev ts p.2)=true)/\Hv P T (cT P T) (kY ts parts) C):=by
 unfold opX Hv;simp only
 cases hz:cT P T with
 | none=>rfl
 | some z =>
  simp only
  cases hp:eL P T with
  | none=>rfl
  | some pl =>
   simp only [Wr];cases hf:n6 pl z.cells (kY ts parts)<;>rfl
@[simp] theorem aj0 (parts:Array (Nat×Operand)):kY ts parts=parts.toList.map λp=>(p.1,gev ts p.2):=nr rfl
@[simp] theorem anf (m i:Nat):LA (.inr m) i=some (i*m,m):=nr rfl
@[simp] theorem ane (l:List (Nat×Nat)) (i:Nat):LA (.inl l) i=l[i]?:=nr rfl
@[simp] theorem ai4 (pl:List (Nat×Nat) ⊕ Nat) (cells:bV):n6 pl cells []=some cells:=nr rfl
def aee (pl:List (Nat×Nat) ⊕ Nat) (cells:bV) (os:Option (Nat×Nat)) (v:Value) (rest:List (Nat×Value)):Option (Array Value) :=
 match os with
 | none=>none
 | some (off,size)=>if v.cells.size=size/\off+v.cells.size<=cells.size then n6 pl (gh cells off v.cells.toList) rest else none
@[simp] theorem af5 (pl:List (Nat×Nat) ⊕ Nat) (cells:bV) (off size:Nat) (v:Value) (rest:List (Nat×Value)):aee pl cells (some (off,size)) v rest=if v.cells.size=size/\off+v.cells.size<=cells.size then n6 pl (gh cells off v.cells.toList) rest else none:=nr rfl
@[simp] theorem af4 (pl:List (Nat×Nat) ⊕ Nat) (cells:bV) (i:Nat) (v:Value) (rest:List (Nat×Value)):n6 pl cells ((i,v)::rest)=aee pl cells (LA pl i) v rest:=nr rfl

@[congr] theorem aho {base:Nat} {Q:QQ} {seen:List (Option Tmp)} {k k':Nat} {l:og} {oW:eM} {db:Hp} {tr tr':Tr} {xS:Nat} {wr wr' yd yd':Bool} (h1:k=k') (h2:ts=oW) (h3:hp=db) (h4:tr=tr') (h5:yc=xS) (h6:wr=wr') (h7:yd=yd') :
  pd P G V base Q seen k l ts hp tr yc wr yd=pd P G V base Q seen k' l oW db tr' xS wr' yd':=by rw [h1,h2,h3,h4,h5,h6,h7]
@[congr] theorem aaq {seen:List (Option Tmp)} {k k':Nat} {o:Oper} (h1:k=k'):po seen k o ts=po seen k' o ts:=by rw [h1]
@[congr] theorem ajS {o:Oper} {oW:eM} {db:Hp} {tz:Nat} (h2:ts=oW) (h3:hp=db) (h4:nk=tz):opX P G V yc o ts hp nk C=opX P G V yc o oW db tz C:=by rw [h2,h3,h4]
@[congr] theorem aiA {w w':Option Bool} {a b:Prop} (h:w=w'):Va w a b=Va w' a b:=eO
@[congr] theorem afa {v v':Value} {x y:Operand} (h:v=v'):Sq ts hp v x y C=Sq ts hp v' x y C:=eO
@[congr] theorem aaK {z z':Option Value} {tz:Nat} {T:TypeId} (h:z=z') (h1:nk=tz):KM z nk T C=KM z' tz T C:=kK
@[congr] theorem acp {v v':Option Value} {k k':Nat} (h:v=v') (h1:k=k'):H8 v k C=H8 v' k' C:=kK
@[congr] theorem aco {T:TypeId} {b b':Option Blk} {k off k' Ah:Nat} (h:b=b') (h1:k=k') (h2:off=Ah):H7 P T b k off C=H7 P T b' k' Ah C:=by rw [h,h1,h2]
@[congr] theorem aeW {T:TypeId} {v v':Value} (h:v=v'):R5 P T hp v C=R5 P T hp v' C:=eO
@[congr] theorem aal {T:TypeId} {b b':Option Blk} {k off k' Ah:Nat} {w w':Value} (h:b=b') (h1:k=k') (h2:off=Ah) (h3:w=w'):Ax P T b k off w C=Ax P T b' k' Ah w' C:=by rw [h,h1,h2,h3]
@[congr] theorem adx {T:TypeId} {v v' w w':Value} (h:v=v') (h1:w=w'):LK P T hp v w C=LK P T hp v' w' C:=kK
@[congr] theorem Vm {v v':Option Value} (h:v=v'):sQ v C=sQ v' C:=eO
@[congr] theorem W3 {v v':Value} {i:Nat} (h:v=v'):zI v i C=zI v' i C:=eO
@[congr] theorem aeO {s s':Option Nat} {k k' off Ah:Nat} {m m':Int} (h:s=s') (h1:k=k') (h2:off=Ah) (h3:m=m'):HX s k off m C=HX s' k' Ah m' C:=by rw [h,h1,h2,h3]
@[congr] theorem aeP {v v':Value} {len:Nat} {e:TypeId} {m m':Int} (h:v=v') (h1:m=m'):M8 P v len e m C=M8 P v' len e m' C:=kK
@[congr] theorem aeQ {v v':Value} {e:TypeId} {m m':Int} (h:v=v') (h1:m=m'):Na P v e m C=Na P v' e m' C:=kK
@[congr] theorem ag9 {u u':Option TypeDesc} {v v':Value} {m m':Int} (h0:u=u') (h:v=v') (h1:m=m'):TX P u v m C=TX P u' v' m' C:=by rw [h,h1,h0]
@[congr] theorem aeN {T:TypeId} {i i' v v':Value} (h:i=i') (h1:v=v'):RU P T i v C=RU P T i' v' C:=kK
@[congr] theorem afE {o:Oper} {v v':Option Value} (h:v=v'):Pb P v o ts hp C=Pb P v' o ts hp C:=eO
@[congr] theorem akm {v v':Option Value} (h:v=v'):unX v C=unX v' C:=eO
@[congr] theorem aeo {f:FuncId} {args fL:bV} (h:args=fL):pI P G f args hp nk C=pI P G f fL hp nk C:=eO
@[congr] theorem aiP {o o':Option (Array Value)} {e:TypeId} {len tz:Nat} (h:o=o') (h1:nk=tz):bsX o e len nk C=bsX o' e len tz C:=kK
@[congr] theorem aiQ {pl pl':Option (List (Nat×Nat) ⊕ Nat)} {z z':Value} {parts Iq:List (Nat×Value)} (h:pl=pl') (h1:z=z') (h2:parts=Iq):buX pl z parts C=buX pl' z' Iq C:=by rw [h,h1,h2]
@[congr] theorem aaT {T:TypeId} {z z':Option Value} {parts Iq:List (Nat×Value)} (h1:z=z') (h2:parts=Iq):Hv P T z parts C=Hv P T z' Iq C:=ml

@[simp] theorem akI (op:BinOp) (T:TypeId) (k k':IntKind) (a b:Int):vc P op T (.int k a) (.int k' b)=tu op k a k' b:=nr rfl
@[simp] theorem ZW (T:TypeId) (a b:Bool):vc P .eql T (.bool a) (.bool b)=if BM P T then some (.bool (a==b)) else none:=nr rfl
@[simp] theorem ZX (T:TypeId) (a b:Bool):vc P .neq T (.bool a) (.bool b)=if BM P T then some (.bool (a != b)) else none:=nr rfl
def Mr (r:Option Bool) (neg:Bool):Option Value :=
 match r with
 | some r=>some (.bool (if neg then !r else r))
 | none=>none
@[simp] theorem aoh (r:Bool):Mr (some r) false=some (.bool r):=nr rfl
@[simp] theorem aoi (r:Bool):Mr (some r) true=some (.bool !r):=nr rfl
@[simp] theorem aaQ (T:TypeId) (a b:bV):vc P .eql T (.agg a) (.agg b)=Mr (KL P T a b) false:=Ce
@[simp] theorem aaR (T:TypeId) (a b:bV):vc P .neq T (.agg a) (.agg b)=Mr (KL P T a b) true:=Ce
@[simp] theorem aod (T:TypeId) (xs ys:bV):KL P T xs ys=Jy P T (Ht P T) (tN P T) xs ys:=nr rfl
def ad1 (n:Option Nat) (xs ys:bV):Option Bool :=
 match n with
 | some n=>if xs.size=n/\ys.size=n then Gu xs.toList ys.toList else none
 | none=>none
@[simp] theorem aoe (T:TypeId) (xs ys:bV):I8 P T xs ys=ad1 (Ht P T) xs ys:=nr rfl
@[simp] theorem afD (n:Nat) (xs ys:bV):ad1 (some n) xs ys=if xs.size=n/\ys.size=n then Gu xs.toList ys.toList else none:=nr rfl
@[simp] theorem afA (T:TypeId) (n:Nat) (st:Option (List (TypeId×Nat))) (xs ys:bV):Jy P T (some n) st xs ys=I8 P T xs ys:=nr rfl
@[simp] theorem akC (T:TypeId) (l:List (TypeId×Nat)) (xs ys:bV):Jy P T none (some l) xs ys=if (xs.all bP&&ys.all bP)=true then KZ P xs ys l else none:=nr rfl
def ak0 (a b:Option Bool):Option Bool :=
 match a,b with
 | some a,some b=>some (a&&b)
 | _,_=>none
@[simp] theorem ai0 (a b:Bool):ak0 (some a) (some b)=some (a&&b):=nr rfl
@[simp] theorem ak1 (xs ys:bV):KZ P xs ys []=some true:=nr rfl
@[simp] theorem ai1 (T off:Nat) (fs:List (TypeId×Nat)) (xs ys:bV):KZ P xs ys ((T,off)::fs)=ak0 (Xb P T off xs ys) (KZ P xs ys fs):=nr rfl
def ak5 (P:Program) (T off:Nat) (n:Option Nat) (xs ys:bV):Option Bool :=
 match n with
 | some n=>if off+n<=xs.size/\off+n<=ys.size then I8 P T (xs.extract off (off+n)) (ys.extract off (off+n)) else none
 | none=>if ab5 P T=true then match xs[off]?,ys[off]? with
   | some (.int k a),some (.int k' b)=>if k=k' then some (a==b) else none
   | _,_=>none
  else aga P (snF P T) off xs ys
@[simp] theorem aou (T off:Nat) (xs ys:bV):Xb P T off xs ys=ak5 P T off (Tg P T) xs ys:=nr rfl
@[simp] theorem ajb (T off n:Nat) (xs ys:bV):ak5 P T off (some n) xs ys=if off+n<=xs.size/\off+n<=ys.size then I8 P T (xs.extract off (off+n)) (ys.extract off (off+n)) else none:=nr rfl
@[simp] theorem aaS (T:TypeId) (p:OV) (l c:Nat):vc P .eql T (.slice p l c) (.slice none 0 0)=if Bq P T=true then some (.bool p.isNone) else none:=nr rfl
@[simp] theorem ak2:Gu [] []=some true:=nr rfl
def akD (b:Bool) (r:Option Bool):Option Bool :=
 match r with
 | some r=>some (b&&r)
 | none=>none
@[simp] theorem aiM (b r:Bool):akD b (some r)=some (b&&r):=nr rfl
@[simp] theorem ai2 (k k':IntKind) (a b:Int) (xs ys:List Value):Gu (.int k a::xs) (.int k' b::ys)=if k=k' then akD (a==b) (Gu xs ys) else none:=nr rfl
@[simp] theorem amq (k k':IntKind) (a b:Int):tu .add k a k' b=if k=k' then some (.int k (k.wrap (a+b))) else none:=nr rfl
@[simp] theorem amD (k k':IntKind) (a b:Int):tu .sub k a k' b=if k=k' then some (.int k (k.wrap (a - b))) else none:=nr rfl
@[simp] theorem amx (k k':IntKind) (a b:Int):tu .mul k a k' b=if k=k' then some (.int k (k.wrap (a*b))) else none:=nr rfl
@[simp] theorem amz (k k':IntKind) (a b:Int):tu .quo k a k' b=if k=k' then if b=0 then none else some (.int k (k.wrap (a.tdiv b))) else none:=nr rfl
@[simp] theorem amA (k k':IntKind) (a b:Int):tu .rem k a k' b=if k=k' then if b=0 then none else some (.int k (a.tmod b)) else none:=nr rfl
@[simp] theorem amB (k k':IntKind) (a b:Int):tu .shl k a k' b=if 0<=b then some (.int k (k.wrap (a*2^min b.toNat k.bits))) else none:=nr rfl
@[simp] theorem amC (k k':IntKind) (a b:Int):tu .shr k a k' b=if 0<=b then some (.int k (a.fdiv (2^min b.toNat k.bits))) else none:=nr rfl
@[simp] theorem amr (k k':IntKind) (a b:Int):tu .and k a k' b=if k=k' then some (.int k (jE .and k a b)) else none:=nr rfl
@[simp] theorem ao7 (k k':IntKind) (a b:Int):tu .or k a k' b=if k=k' then some (.int k (jE .or k a b)) else none:=nr rfl
@[simp] theorem ams (k k':IntKind) (a b:Int):tu .eql k a k' b=if k=k' then some (.bool (a==b)) else none:=nr rfl
@[simp] theorem amy (k k':IntKind) (a b:Int):tu .neq k a k' b=if k=k' then some (.bool (a != b)) else none:=nr rfl
@[simp] theorem amw (k k':IntKind) (a b:Int):tu .lss k a k' b=if k=k' then some (.bool (a<b)) else none:=nr rfl
@[simp] theorem amv (k k':IntKind) (a b:Int):tu .leq k a k' b=if k=k' then some (.bool (a<=b)) else none:=nr rfl
@[simp] theorem amu (k k':IntKind) (a b:Int):tu .gtr k a k' b=if k=k' then some (.bool (b<a)) else none:=nr rfl
@[simp] theorem amt (k k':IntKind) (a b:Int):tu .geq k a k' b=if k=k' then some (.bool (b<=a)) else none:=nr rfl
@[simp] theorem apM (k:IntKind) (a:Int):un1 .neg (.int k a)=some (.int k (k.wrap (0 - a))):=nr rfl
@[simp] theorem apN (b:Bool):un1 .not (.bool b)=some (.bool !b):=nr rfl
@[simp] theorem apO (k:IntKind) (a:Int):un1 .xor (.int k a)=some (.int k (jE .xor k (if k.signed then -1 else k.max) a)):=nr rfl
def WE (s t:Option TypeDesc) (n:Int):Option Value :=
 match s,t with
 | some _,some (.int k)=>some (.int k (k.wrap n))
 | _,_=>none
@[simp] theorem aiZ (s:TypeDesc) (k:IntKind) (n:Int):WE (some s) (some (.int k)) n=some (.int k (k.wrap n)):=nr rfl
@[simp] theorem aiY (S T:TypeId) (k:IntKind) (n:Int):zF P S T (.int k n)=WE (P.underlying S) (P.underlying T) n:=by
 unfold zF WE
 cases hs:P.underlying S with
 | none=>rfl
 | some s =>
  cases ht:P.underlying T with
  | none=>rfl
  | some d=>cases d<;>rfl

def Ix (v:Value):Option Value:=if jH v then some v else none
def adn (v:Option Value):Option Value :=
 match v with
 | some v=>Ix v
 | none=>none
@[simp] theorem aj7 (v:Value):adn (some v)=Ix v:=nr rfl
@[simp] theorem aj4 (t:Tmp):Ar P ts hp (.tmp t)=Ix (ts t):=nr rfl
def Sy (P:Program) (T:TypeId) (b:Option Blk) (off:Nat):Option Value :=
 match b with
 | some b=>adn (ft P T b off)
 | none=>none
@[simp] theorem ah3 (T:TypeId) (b:Blk) (off:Nat):Sy P T (some b) off=adn (ft P T b off):=nr rfl
def ah2 (P:Program) (T:TypeId) (hp:Hp) (v:Value):Option Value :=
 match v with
 | .pointer (some ⟨k,off,none⟩)=>Sy P T (hp k) off
 | _=>none
@[simp] theorem ann (T:TypeId) (k off:Nat):ah2 P T hp (.pointer (some ⟨k,off,none⟩))=Sy P T (hp k) off:=nr rfl
@[simp] theorem ah4 (t:Tmp) (T:TypeId):Ar P ts hp (.cell t T)=ah2 P T hp (ts t):=by
 unfold Ar ah2;simp only;split
 ·unfold Sy;split
  ·unfold adn Ix;split<;>simp_all
  ·simp_all
 ·simp_all
@[simp] theorem aj8 (b:Bool):Ix (.bool b)=some (.bool b):=nr rfl
@[simp] theorem anq (k:IntKind) (n:Int):Ix (.int k n)=some (.int k n):=nr rfl
@[simp] theorem anp (cs:bV):Ix (.agg cs)=some (.agg cs):=nr rfl
@[simp] theorem aj9 (f:Fn) (a b:bV):Ix (.func f a b)=some (.func f a b):=nr rfl
@[simp] theorem ah7 (a:OV) (n c:Nat):Ix (.slice a n c)=some (.slice a n c):=nr rfl
@[simp] theorem afd (s:ByteArray):Ix (.string s)=some (.string s):=nr rfl
def ano (v:Option Value) (r:Option (List Value)):Option (List Value) :=
 match v,r with
 | some v,some vs=>some (v::vs)
 | _,_=>none
@[simp] theorem aj6 (v:Value) (vs:List Value):ano (some v) (some vs)=some (v::vs):=nr rfl
@[simp] theorem aj5:ub P ts hp []=some []:=nr rfl
@[simp] theorem ah5 (x:ResultVar) (l:List ResultVar):ub P ts hp (x::l)=ano (Ar P ts hp x) (ub P ts hp l):=by
 simp only [ub]
 cases h1:Ar P ts hp x with
 | none=>rfl
 | some v=>cases h2:ub P ts hp l<;>rfl
def Sz (l:Option (List Value)):Option Value :=
 match l with
 | some [v]=>some v
 | some vs=>some (.tuple vs.toArray)
 | none=>none
@[simp] theorem apA (v:Value):Sz (some [v])=some v:=nr rfl
@[simp] theorem apB (v u:Value) (l:List Value):Sz (some (v::u::l))=some (.tuple (v::u::l).toArray):=nr rfl
@[simp] theorem apz:Sz (some [])=some (.tuple #[]):=nr rfl
@[simp] theorem apy (rs:List ResultVar):qa P rs ts hp=Sz (ub P ts hp rs):=nr rfl
@[simp] theorem gK (next:GS->Prop) (K:kV) (s:GS):dU next K .normal s=next s:=nr rfl
@[simp] theorem U5 (next:GS->Prop) (K:kV) (s:GS):dU next K .ret s=K .ret s:=nr rfl
@[simp] theorem QT (next:GS->Prop) (K:kV) (i:Nat) (s:GS):dU next K (.exit i) s=K (.exit i) s:=nr rfl
@[simp] theorem QU (next:GS->Prop) (K:kV) (i:Nat) (s:GS):dU next K (.goto i) s=K (.goto i) s:=nr rfl
@[simp] theorem Oo (next:GS->Prop) (K:kV) (ch:List PanicEntry) (s:GS):dU next K (.panic ch) s=K (.panic ch) s:=nr rfl
@[simp] theorem KR (i:Nat) (K:kV) (ch:List PanicEntry) (s:GS):nm i K (.panic ch) s=K (.panic ch) s:=nr rfl
@[simp] theorem Lh (l:Nat) (J:GS->Prop) (K:kV) (s:GS):sV l J K .normal s=K .normal s:=nr rfl
@[simp] theorem T3 (l:Nat) (J:GS->Prop) (K:kV) (s:GS):sV l J K .ret s=K .ret s:=nr rfl
@[simp] theorem P7 (l i:Nat) (J:GS->Prop) (K:kV) (s:GS):sV l J K (.exit i) s=K (.exit i) s:=nr rfl
@[simp] theorem Ni (l:Nat) (ch:List PanicEntry) (J:GS->Prop) (K:kV) (s:GS):sV l J K (.panic ch) s=K (.panic ch) s:=nr rfl
@[simp] theorem iX (i:Nat) (K:kV) (s:GS):nm i K .normal s=K .normal s:=nr rfl
@[simp] theorem Pc (i:Nat) (K:kV) (s:GS):nm i K .ret s=K .ret s:=nr rfl
@[simp] theorem n5 (i j:Nat) (K:kV) (s:GS):nm i K (.exit j) s=if j=i then K .normal s else K (.exit j) s:=nr rfl
@[simp] theorem Mp (i j:Nat) (K:kV) (s:GS):nm i K (.goto j) s=K (.goto j) s:=nr rfl
theorem wN:(∀ (J:GS->Prop) (K:kV) (s:GS),dU J K .normal s=J s)/\(∀ (J:GS->Prop) (K:kV) (s:GS),dU J K .ret s=K .ret s)/\(∀ (J:GS->Prop) (K:kV) (i:Nat) (s:GS),dU J K (.exit i) s=K (.exit i) s) /\
  (∀ (J:GS->Prop) (K:kV) (i:Nat) (s:GS),dU J K (.goto i) s=K (.goto i) s)/\(∀ (J:GS->Prop) (K:kV) (ch:List PanicEntry) (s:GS),dU J K (.panic ch) s=K (.panic ch) s) /\
  (∀ (i:Nat) (K:kV) (s:GS),nm i K .normal s=K .normal s)/\(∀ (i:Nat) (K:kV) (s:GS),nm i K .ret s=K .ret s)/\(∀ (i j:Nat) (K:kV) (s:GS),nm i K (.goto j) s=K (.goto j) s)/\(∀ (i:Nat) (K:kV) (ch:List PanicEntry) (s:GS),nm i K (.panic ch) s=K (.panic ch) s) /\
  (∀ (l:Nat) (J:GS->Prop) (K:kV) (s:GS),sV l J K .normal s=K .normal s)/\(∀ (l:Nat) (J:GS->Prop) (K:kV) (s:GS),sV l J K .ret s=K .ret s)/\(∀ (l i:Nat) (J:GS->Prop) (K:kV) (s:GS),sV l J K (.exit i) s=K (.exit i) s)/\∀ (l:Nat) (ch:List PanicEntry) (J:GS->Prop) (K:kV) (s:GS),sV l J K (.panic ch) s=K (.panic ch) s :=
 ⟨gK,U5,QT,QU,Oo,iX,Pc,Mp,KR,Lh,T3,P7,Ni⟩
theorem wT:(∀ (a:Oper) (i:Nat) (l:og),(a::l).take (i+1)=a::l.take i)/\(∀ l:List Oper,l.take 0=[])/\(∀ (a:Oper) (i:Nat) (l:og),(a::l).drop (i+1)=l.drop i)/\(∀ l:List Oper,l.drop 0=l)/\∀ n:Nat,0+n=n:=⟨λ_ _ _=>rfl,λ_=>rfl,λ_ _ _=>rfl,λ_=>rfl,ar⟩
end

section
variable {P:Program}
theorem kU {T:TypeId} {m:Nat} (h1:oe P T=some true) (h2:bA P T=some m) (c:bV) (off:Nat):eh P T c off=if off+m<=c.size then some (.agg (c.extract off (off+m))) else none:=by
 simp [eh,h1,h2]
def pj (v:Option Value):Option Value :=
 match v with
 | some v=>if sB v then some v else none
 | none=>none
@[simp] theorem aka (b:Bool):pj (some (.bool b))=some (.bool b):=nr rfl
@[simp] theorem anu (k:IntKind) (n:Int):pj (some (.int k n))=some (.int k n):=nr rfl
@[simp] theorem aic (a:OV) (n c:Nat):pj (some (.slice a n c))=some (.slice a n c):=nr rfl
@[simp] theorem akb (f:Fn) (a b:bV):pj (some (.func f a b))=some (.func f a b):=nr rfl
@[simp] theorem afh (s:ByteArray):pj (some (.string s))=some (.string s):=nr rfl
theorem fQ {T:TypeId} (h1:oe P T=some false) (c:bV) (off:Nat):eh P T c off=pj c[off]?:=by
 unfold eh pj;simp only [h1]
 rfl
theorem fD {T:TypeId} {z:Value} (h:∀ w,(zeroValue T).run P w=.ok z w):cT P T=some z:=by
 have h:=h default;unfold cT;unfold zeroValue typeInfo at h
 cases hi:P.info? T with
 | none=>simp [hi,stuck] at h
 | some i =>
  simp [hi] at h
  cases hz:i.zero with
  | none=>simp [hz,unsupported] at h
  | some u=>simp [hz] at h;simp [hz,h]
theorem aZ {T:TypeId} {m:Nat} (h:∀ w,(sizeOf T).run P w=.ok m w):bA P T=some m:=by
 have h:=h default;unfold bA;unfold sizeOf typeInfo at h
 cases hi:P.info? T with
 | none=>simp [hi,stuck] at h
 | some i=>simp [hi] at h;simp [h]
theorem cO {T:TypeId} {b:Bool} (h:∀ w,(isAgg T).run P w=.ok b w):oe P T=some b:=by
 have h:=h default;unfold oe;unfold isAgg underlying at h
 cases hi:P.underlying T with
 | none=>simp [hi,stuck] at h
 | some i=>cases i<;>simp_all
theorem tE {T e:TypeId} {n m:Nat} (hu:P.underlying T=some (.array n e)) (hs:bA P e=some m):eL P T=some (.inr m):=by simp [eL,hu,hs]
theorem Rj {T e:TypeId} {n:Nat} {k:IntKind} (hu:P.underlying T=some (.array n e)) (he:P.underlying e=some (.int k)) (hs:bA P e=some 1) (hg:P.eqGuardType P.depth T=false):Ht P T=some n:=by
 simp [Ht,hu,he,hs,hg]
theorem Wq {T:TypeId} (hu:P.underlying T=some .bool):BM P T=true:=by simp [BM,hu]
end
theorem Ci {p:Prop} (h:p:=by rw [hG];exact cD (λp hp=>(hm p hp).2.2.1) cA):p:=h
theorem Ff {p:Prop} (h:p:=by
 rcases cB hb with h|h
 ·exact (hm _ h).2.1
 ·exact Blk.flat_ids ((cK k b h).2)):p:=h
theorem FP {p:Prop} (h:p:=by
 unfold dom at hd
 cases hb:hpL G m0 k with
 | none=>exact absurd hb hd
 | some b =>
  rcases cB hb with h|h
  ·exact (hk _ h).2
  ·have cA:=(cK k b h).1;omega):p:=h

def tsL:List (Nat×Value)->Nat->Value
 | []=>λ_=>eY
 | (k,v)::l=>upd (tsL l) k v
def hpL (G:Hp):List (Nat×Blk)->Hp
 | []=>G
 | (k,b)::m=>upd (hpL G m) k (some b)
@[simp] theorem apI (t:Nat):tsL [] t=eY:=nr rfl
@[simp] theorem IK (k:Nat) (v:Value) (l:List (Nat×Value)) (t:Nat):tsL ((k,v)::l) t=if t=k then v else tsL l t:=nr rfl
@[simp] theorem dm (G:Hp):hpL G []=G:=nr rfl
@[simp] theorem aW (G:Hp) (k:Nat) (b:Blk) (m:bS) (t:Nat):hpL G ((k,b)::m) t=if t=k then some b else hpL G m t:=nr rfl

theorem nJ:∀ {l:List (Nat×Value)} {t:Nat},tsL l t=eY\/(t,tsL l t)∈l
 | [],_=>.inl rfl
 | (k,v)::l,t=>by
  rw [IK];split
  ·rename_i e;subst e;exact .inr zS
  ·rcases nJ (l:=l) (t:=t) with h|h
   ·exact .inl h
   ·exact .inr (br _ h)
theorem cB {G:Hp}:∀ {m:bS} {k:Nat} {b:Blk},hpL G m k=some b->(k,b)∈m\/G k=some b
 | [],_,_,h=>.inr h
 | (q,c)::m,k,b,h=>by
  rw [aW] at h;split at h
  ·rename_i e;subst e;cases h;exact .inl zS
  ·exact (cB h).imp (br _) id
theorem cD {G:Hp}:∀ {m:bS} {k:Nat},(∀ p∈m,100<=p.1)->k<100->hpL G m k=G k
 | [],_,_,_=>rfl
 | (q,c)::m,k,h,hk=>by
  have:=h (q,c) zS;rw [aW,ab (by simp at this;omega)];exact cD (λp hp=>h p (br _ hp)) hk
theorem kR {G:Hp} (cK:ct G) {m:bS} {rs:List Nat} (h:∀ p∈m,p.1∈rs):rst (hpL G m) rs=hpL G m:=funext λk=>by
 unfold rst;split
 ·rfl
 ·rename_i hk
  cases hb:hpL G m k with
  | none=>rfl
  | some b =>
   rcases cB hb with h1|h1
   ·exact absurd (.inr (h _ h1)) hk
   ·exact absurd (.inl (cK k b h1).1) hk

theorem dv {C:Ctx} {G:Hp} {s:GS} {m m0:bS} (l:List (Nat×Value)) (B:Nat) (hG:C.G=G) (cK:ct G) (h0:C.hp0=hpL G m0) (hB:100<=B) (hl:∀ p∈l,s.ts p.1=p.2/\aN (dom (hpL G m)) p.2)
  (hm:∀ p∈m,s.hp p.1=some p.2/\p.2.ids (dom (hpL G m))/\100<=p.1/\p.1<B) (hk:∀ p∈m0,100<=p.1/\hpL G m p.1=s.hp p.1):Weak C s ⟨tsL l,hpL G m,B,s.yc⟩ where
 ts t:=by
  rcases nJ (l:=l) (t:=t) with h|h
  ·exact .inl h
  ·exact .inr ⟨(hl _ h).1.symm,(hl _ h).2⟩
 hp k hk:=by
  dsimp only
  cases hb:hpL G m k with
  | none=>exact .inl rfl
  | some b =>
   rcases cB hb with h|h
   ·exact .inr (hm _ h).1.symm
   ·have:=(cK k b h).1;omega
 ids k b hb:=by
  exact Ff
 keep k h1k hd:=by
  rw [h0] at hd;dsimp only;exact FP
 glob k cA:=Ci
 yc:=rfl
 free x hx:=by
  dsimp only at hx |-
  cases hb:hpL G m x with
  | none=>rfl
  | some b =>
   rcases cB hb with h|h
   ·have:=(hm _ h).2.2.2;simp at this;omega
   ·have:=(cK x b h).1;omega
 low:=hB

theorem eX {P:Program} {G:Hp} {f:FuncId} {args:bV} {hp db:Hp} {rs:List Nat} {res:Res} {nk:Nat} {K:Eff->Prop} (h:Fun P G f args db rs res) (h1:∀ k∈rs,db k=hp k) (h2:∀ k,k<100->db k=G k) (h3:res.at nk) (hk:K (res.eff rs)):pI P G f args hp nk K :=
 ⟨db,rs,res,h1,h2,h,h3,hk⟩

@[simp] theorem ao3 (D:gA) (b:Bool):aN D (.bool b)=True:=nr rfl
@[simp] theorem arX (D:gA) (k:IntKind) (n:Int):aN D (.int k n)=True:=nr rfl
@[simp] theorem ajt (D:gA) (s:ByteArray):aN D (.string s)=True:=nr rfl
@[simp] theorem arY (D:gA) (a:Addr):aN D (.pointer (some a))=D a.block:=nr rfl
@[simp] theorem amh (D:gA) (a:Addr) (n c:Nat):aN D (.slice (some a) n c)=D a.block:=nr rfl
@[simp] theorem aeL (D:gA) (n c:Nat):aN D (.slice none n c)=True:=nr rfl
@[simp] theorem ao4 (D:gA) (fn:Fn) (a b:bV):aN D (.func fn a b)=((∀ x∈a,aR D x)/\∀ x∈b,aR D x):=nr rfl
@[simp] theorem amg (D:gA) (t:TypeId) (v:Value):aN D (.iface t v)=aR D v:=nr rfl
@[simp] theorem arW (D:gA) (l:List Value):aN D (.agg l.toArray)↔∀ x∈l,aL D x:=by simp [aN,cp]
@[simp] theorem ami (D:gA):aN D undef=True:=by simp [undef,aN]
@[simp] theorem arU (D:gA) (k:IntKind) (n:Int):aR D (.int k n)=True:=nr rfl
@[simp] theorem arV (D:gA) (k:IntKind) (n:Int):aL D (.int k n)=True:=nr rfl
@[simp] theorem akH (l:List Value) (T:TypeId) (D:gA):(Blk.mk l.toArray T).ids D↔∀ x∈l,aL D x:=by simp [Blk.ids]
theorem ED {p:Prop} (h:p:=by
 obtain ⟨q,hq,rfl⟩:=aD.1 hm;simp only [hm,uG,aU] at hb
 have nc:100<=q:=by
  by_cases nc:100<=q
  ·exact nc
  ·exact absurd (by rw [(h.low q zO).1];omega) h1
 obtain ⟨c,e1,e2⟩:=h.at' q hq nc;rw [e2] at hb;cases hb;exact ⟨q,c,by simp [rst,hq,e1],rfl,rfl⟩):p:=h
theorem FI {p:Prop} (h:p:=by
 have hm:k∈rs:=by
  by_cases hm:k∈rs
  ·exact hm
  ·simp [h1,hm] at hk
 simp only [hm,uG,aU] at hk;obtain ⟨c,e1,e2⟩:=h.at' k hm zO;rw [hk] at e1;cases e1;have hm':ρ k∈rs.map ρ:=aD.2 ⟨k,hm,rfl⟩;simp only [hm',uG,aU] at hb;rw [e2] at hb;cases hb;rfl):p:=h
theorem DP {p:Prop} (h:p:=by
 unfold dom rst at hk;by_cases hm:k∈rs
 ·exact hm
 ·simp [hm] at hk;omega):p:=h
theorem FJ {p:Prop} (h:p:=by
 refine ⟨⟨aE,λt=>?_,hZ,aes,⟨λk=>k<W.heap.size/\¬im k,[],⟨λ_=>jr,rfl,rfl,rfl,aG _,λ_ _=>rfl⟩,λk hk=>hk.1,λi hi _ hS=>hS.2 ⟨i,hi,rfl⟩,⟨rfl,jZ⟩,zS⟩,
  λi hi=>⟨hi,rfl⟩,λk hk=>?_,ba⟩,dx,hB,cK,λy hy=>by cases hy⟩
 ·right
  dsimp only;by_cases ht:t<args.size
  ·exact ER
  ·have e:args.getD t undef=undef:=by simp [gN (lA ht)]
   rw [e];refine ⟨?_,kT _⟩;rw [ir];simp only [jl];rw [uH vV,jm];split<;>rfl
 ·show rst hp rs k=G k;simp [rst,hk,hG k hk]):p:=h
theorem Dr {p:Prop} (h:p:=by
 by_cases g8:im k
 ·obtain ⟨i,jU,rfl⟩:=g8
  cases hb:rst hp rs i with
  | none=>exact absurd hb jU
  | some b =>
   have e:s'.hp i=some b:=(yY i jU).trans hb;have:=Jp gF e5 i b e;rw [(ig i jU).2,Blk.obj_congr (λk hk=>(ig k hk).2) (mM i b hb)] at this;rw [this,(hZ i b hb).1]
 ·have hSk:S k:=(hS k).2 ⟨hk,g8⟩;rw [e5 k (λhm=>(sv k hm).2.1 hSk)];exact mH k hSk):p:=h
theorem Es {p:Prop} (h:p:=by
 have hd:dom s'.hp (ρ p.1):=by unfold dom;rw [hns p hp1];simp
 have h1:=HM _ hd (hρ p hp1).2;rw [hS] at h1;refine aO λcA=>h1 ⟨zO,λ⟨i,jU,e⟩=>?_⟩;have:=cv.ri.inj i (ρ p.1) (ig i jU).1 hd ((ig i jU).2.trans e);exact (hρ p hp1).1 (this▸jU)):p:=h
theorem Dj {p:Prop} (h:p:=by
 have hd:∀ x∈ns,dom s'.hp (ρ x.1):=λx hx=>by unfold dom;rw [hns x hx];simp
 exact gu p hp1 q nc (cv.ri.inj _ _ (hd p hp1) (hd q nc) VB)):p:=h
theorem Ep {p:Prop} (h:p:=by
 simp only [Blk.rn,Blk.obj,fw];congr 2;funext x;exact yp r ρ x):p:=h
theorem DC {p:Prop} (h:p:=by
 intro x hx;obtain ⟨y,hy,rfl⟩:=dA.1 hx;exact GZ h (hb y hy)):p:=h
theorem Ew {p:Prop} (h:p:=by
 cases x with
 | pointer p=>cases p<;>rfl
 | slice p _ _=>cases p<;>rfl
 | map p=>cases p<;>rfl
 | _=>exact hx):p:=h
theorem wQ {p:Prop} (h:p:=by
 have hg:G k=some b:=(hG k hk).symm.trans hb;exact Blk.rn_flat (cK k b hg).2):p:=h
theorem FN {p:Prop} (h:p:=by
 unfold rst at hb;by_cases h1:k<100
 ·simp only [h1,kg,aU] at hb;have hl:=h.low k h1;rw [hl.2] at hb;exact ⟨k,b,by simp [rst,h1,hb],hl.1,(bflat k b h1 hb).symm⟩
 ·by_cases hm:k∈rs.map ρ
  ·exact ED
  ·simp [h1,hm] at hb):p:=h
theorem Fz {p:Prop} (h:p:=by
 obtain ⟨y,hy,rfl⟩:=dA.1 hx;have:=hi.cids y hy;exact ⟨tk y this.1,(jF (tk y this.1)).2 (GX (λk hk=>h.dom1 hk) ((jF this.1).1 this.2))⟩):p:=h
theorem Fx {p:Prop} (h:p:=by
 obtain ⟨q,c,h1,rfl,rfl⟩:=back k b hb;exact Blk.ids_rn (λk hk=>h.dom1 hk) (hi.closed q c h1)):p:=h
theorem Ga {p:Prop} (h:p:=by
 rw [fw];refine bK λx hx=>?_;have:=(hi.cids x hx).1;simp only [Function.comp];rw [<-hU (r:=ρ) this,jf]):p:=h
theorem CU {p:Prop} (h:p:=by
 have hd:dom (rst hp rs) k:=gD;have tV:=h.dom1 hd;unfold dom at tV
 cases hb:rst db (rs.map ρ) (ρ k) with
 | none=>exact absurd hb tV
 | some b' =>
  have e:b'=b.rn ρ:=by
   unfold rst at hb hk;by_cases h1:k<100
   ·have hl:=h.low k h1;simp only [h1,kg,aU] at hk;rw [hl.1] at hb;simp only [h1,kg,aU] at hb;rw [hl.2,hk] at hb;cases hb;exact (bflat k b h1 hk).symm
   ·exact FI
  have:=(hZ _ b' hb).1;rw [e,Blk.rn_obj] at this;exact this):p:=h
theorem FL {p:Prop} (h:p:=by
 have e2:=gu _ _ (h.dom1 hk) (h.dom1 hl) e
 have mem:∀ k,dom (rst hp rs) k->100<=k->k∈rs:=λk hk h1=>by
  exact DP
 by_cases h1:k<100
 ·by_cases h2:l<100
  ·rw [(h.low k h1).1,(h.low l h2).1] at e2;exact e2
  ·have:=h.big l (mem l hl zO) zO;rw [(h.low k h1).1] at e2;omega
 ·by_cases h2:l<100
  ·have:=h.big k (mem k hk zO) zO;rw [(h.low l h2).1] at e2;omega
  ·exact h.inj k (mem k hk zO) l (mem l hl zO) zO zO e2):p:=h
theorem D6 {p:Prop} (h:p:=by
 show r (ρ k)=k;have:=h.dom1 hd;rw [(h.low k hk).1] at this |-;exact ba k hk this):p:=h
theorem Dq {p:Prop} (h:p:=by
 refine kW _ (h.dom1 hd) (h.big i ?_ h1);unfold dom rst at hd;by_cases hm:i∈rs
 ·exact hm
 ·simp [hm] at hd;omega):p:=h
abbrev kg := @true_or
abbrev uG := @or_true

theorem Km (r ρ:cI) (v:Value):aA r (aA ρ v)=aA (λk=>r (ρ k)) v:=by
 cases v with
 | pointer p=>cases p<;>rfl
 | slice p _ _=>cases p<;>rfl
 | map p=>cases p<;>rfl
 | _=>rfl
theorem yp (r ρ:cI) (v:Value):aw r (aw ρ v)=aw (λk=>r (ρ k)) v:=by
 cases v with
 | func f a b=>simp only [aw,fw];congr 1<;>(congr 1;funext x;exact Km r ρ x)
 | iface t v=>simp only [aw,Km]
 | pointer p=>cases p<;>rfl
 | slice p _ _=>cases p<;>rfl
 | map p=>cases p<;>rfl
 | _=>rfl
theorem yo (r ρ:cI) (v:Value):aT r (aT ρ v)=aT (λk=>r (ρ k)) v:=by
 cases v with
 | agg cs=>simp only [aT,fw];congr 2;funext x;exact yp r ρ x
 | func f a b=>exact yp r ρ (.func f a b)
 | iface t v=>exact yp r ρ (.iface t v)
 | pointer p=>cases p<;>rfl
 | slice p _ _=>cases p<;>rfl
 | map p=>cases p<;>rfl
 | _=>rfl
theorem jf (r ρ:cI) (v:Value):ren r (ren ρ v)=ren (λk=>r (ρ k)) v:=by
 cases v with
 | tuple vs=>simp only [ren,fw];congr 2;funext x;exact yo r ρ x
 | agg cs=>exact yo r ρ (.agg cs)
 | func f a b=>exact yo r ρ (.func f a b)
 | iface t v=>exact yo r ρ (.iface t v)
 | pointer p=>cases p<;>rfl
 | slice p _ _=>cases p<;>rfl
 | map p=>cases p<;>rfl
 | _=>rfl

section
variable {P:Program} {G:Hp}

theorem Ih {f:FuncId} {fn:Func} {c:Code} {args:bV} {hp:Hp} {rs:List Nat} {v:Value} {ns:bS} {B:Nat} (ρ:cI) (cK:ct G) (hG:∀ k,k<100->hp k=G k) (hf:P.funcs[f]? = some fn) (hb:fn.body=some c) (eP:∀ a w,(callFunc f a).run P w=.ok (.enter f a) w)
  (ha:∀ x∈args,aN (dom (rst hp rs)) x) (mM:∀ k b,rst hp rs k=some b->b.ids (dom (rst hp rs))) (fp:(Res.new v ns).fits hp rs) (hn:args.size<=fn.ntmps) (hB:100<=B) (dx:∀ x,B<=x->rst hp rs x=none)
  (hρ0:∀ k,dom (rst hp rs) k->ρ k=k) (hρ:∀ p∈ns,¬dom (rst hp rs) (ρ p.1)/\100<=ρ p.1) (gu:∀ p∈ns,∀ q∈ns,ρ p.1=ρ q.1->p.1=q.1) (Ji:∀ p∈ns,p.2.ids (dom (rst hp rs)))
  (h:∀ C:Ctx,C.G=G->C.hp0=rst hp rs->C.Y=none->GW P C fn.ntmps [] none c ⟨λt=>args.getD t undef,rst hp rs,B,0⟩ λe s=>(e=.normal\/e=.ret)/\qa P fn.results.toList s.ts s.hp=some (ren ρ v) /\
   (∀ p∈ns,s.hp (ρ p.1)=some p.2)/\∀ k,dom (rst hp rs) k->s.hp k=rst hp rs k):Fun P G f args hp rs (.new v ns):=by
 refine ⟨eP,ha,mM,fp,λr W fM hZ aes ba=>callsIn_of_wp_marks hf hb ⟨fn,hf⟩ ?_⟩
 have VE:∀ k,dom (rst hp rs) k->r k<W.heap.size:=λk hk=>by
  exact se
 let im:Nat->Prop:=λj=>∃ i,dom (rst hp rs) i/\r i=j;let C:Ctx:=⟨iI W im,rst hp rs,r,G,none⟩
 have hi:GI P C fn.ntmps [] r ⟨λt=>args.getD t undef,rst hp rs,B,0⟩ { tmps:=args.map (ren r)++Array.replicate (fn.ntmps - (args.map (ren r)).size) undef,defers:=[] } W:=by
  exact FJ
 refine wpIn_mono (h C rfl rfl rfl r _ W hi) ?_;rintro e a' W' ⟨s',r',⟨he,hr,hns,yY⟩,cv⟩;obtain ⟨S,ms,⟨hS,os,tape,output,size,mH⟩,MP,HM,⟨pZ,BS⟩,sv⟩:=cv.ri.ext;have ig:∀ i,dom (rst hp rs) i->dom s'.hp i/\r' i=r i:=cv.ri.keep
 have Jp:∀ gF:World,(∀ k,k∉ms->gF.heap[k]? = W'.heap[k]?)->∀ i b,s'.hp i=some b->gF.heap[r' i]? = some (b.obj r'):=λgF hW i b hb=>by
  exact w6
 have cm:∀ gF:World,gF.heap.size=W'.heap.size->gF.os=W'.os->gF.tape=W'.tape->gF.output=W'.output->(∀ k,k∉ms->gF.heap[k]? = W'.heap[k]?) ->
   LeavesIn (Fw P none) 0 P fn a'.tmps ((Res.new v ns).holds r (dom (rst hp rs)) W) [] .returning gF:=λgF e1 e2 e3 e4 e5=>by
  have qU:Sat r' (dom s'.hp) s'.hp gF:=λk b hk=>⟨Jp gF e5 k b hk,(cv.ri.sat k b hk).2⟩
  have eE:=jP (fn:=fn) cv.ri.rel qU hr;rw [jf] at eE;refine ⟨_,eE,λ_=>⟨λk=>r' (ρ k),λk hk=>?_,rfl,?_⟩⟩
  ·simp only [hρ0 k hk];exact (ig k hk).2
  ·have hag:∀ k,dom (rst hp rs) k->r' (ρ k)=r' k:=λk hk=>by rw [hρ0 k hk]
   refine ⟨e2.trans os,e3.trans tape,e4.trans output,oK,λk hk _=>?_,λp hp1=>?_,λp hp1=>?_,λp hp1 q nc VB=>?_⟩
   ·exact Dr
   ·have hp1:p∈ns:=by simpa using hp1
    refine ⟨?_,Blk.ids_mono (λk hk=>.inl hk) (Ji p hp1)⟩;have:=Jp gF e5 _ _ (hns p hp1);rw [Blk.obj_congr (r:=r') hag (Ji p hp1)];exact this
   ·exact Es
   ·exact Dj
 exact mq

def Blk.rn (ρ:cI) (b:Blk):Blk:=match b.T with
 | .ty t=>⟨b.c.map (aw ρ),.ty t⟩
 | .raw _ _=>b
 | .mp=>⟨b.c.map (aw ρ),.mp⟩
theorem Blk.rn_obj (r ρ:cI) (b:Blk):(b.rn ρ).obj r=b.obj (λk=>r (ρ k)):=by
 obtain ⟨c,T⟩:=b
 cases T with
 | raw t fr=>rfl
 | ty t =>
  exact Ep
 | mp =>
  exact Ep
theorem Blk.rn_flat {ρ:cI} {b:Blk} (h:∀ x∈b.c,bP x=true):b.rn ρ=b:=by
 obtain ⟨c,T⟩:=b
 cases T with
 | raw t fr=>rfl
 | ty t=>simp only [Blk.rn];rw [eK (λx hx=>eU (h x hx))]
 | mp=>simp only [Blk.rn];rw [eK (λx hx=>eU (h x hx))]
theorem GX {ρ:cI} {D D':gA} (h:∀ k,D k->D' (ρ k)) {v:Value} (hv:aR D v):aR D' (aA ρ v):=by
 cases v with
 | pointer p=>cases p<;>first|exact h _ hv|trivial
 | slice p _ _=>cases p<;>first|exact h _ hv|trivial
 | map p=>cases p<;>first|exact h _ hv|trivial
 | _=>trivial
theorem GZ {ρ:cI} {D D':gA} (h:∀ k,D k->D' (ρ k)) {v:Value} (hv:aL D v):aL D' (aw ρ v):=by
 cases v with
 | func f a b =>
  refine ⟨λx hx=>?_,λx hx=>?_⟩
  ·obtain ⟨y,hy,rfl⟩:=dA.1 hx;exact GX h (hv.1 y hy)
  ·obtain ⟨y,hy,rfl⟩:=dA.1 hx;exact GX h (hv.2 y hy)
 | iface t v=>exact GX (v:=v) h hv
 | pointer p=>cases p<;>first|exact h _ hv|trivial
 | slice p _ _=>cases p<;>first|exact h _ hv|trivial
 | map p=>cases p<;>first|exact h _ hv|trivial
 | _=>trivial
theorem Blk.ids_rn {ρ:cI} {D D':gA} (h:∀ k,D k->D' (ρ k)) {b:Blk} (hb:b.ids D):(b.rn ρ).ids D':=by
 obtain ⟨c,T⟩:=b
 cases T with
 | raw t fr=>trivial
 | ty t =>
  exact DC
 | mp =>
  exact DC
structure Rn (ρ:cI) (hp db:Hp) (rs:List Nat):Prop where
 low:∀ k,k<100->ρ k=k/\db k=hp k
 big:∀ k∈rs,100<=k->100<=ρ k
 at':∀ k∈rs,100<=k->∃ b,hp k=some b/\db (ρ k)=some (b.rn ρ)
 inj:∀ k∈rs,∀ l∈rs,100<=k->100<=l->ρ k=ρ l->k=l
theorem Rn.dom1 {ρ:cI} {hp db:Hp} {rs:List Nat} (h:Rn ρ hp db rs) {k:Nat} (hk:dom (rst hp rs) k):dom (rst db (rs.map ρ)) (ρ k):=by
 unfold dom rst at *
 by_cases h1:k<100
 ·have:=h.low k h1;rw [this.1];simp only [h1,kg,aU] at hk |-;rw [this.2];exact hk
 ·have hm:k∈rs:=by
   by_cases hm:k∈rs
   ·exact hm
   ·simp [h1,hm] at hk
  obtain ⟨b,e1,e2⟩:=h.at' k hm zO;have:ρ k∈rs.map ρ:=aD.2 ⟨k,hm,rfl⟩;simp [this,e2]
theorem IterX.rn {pn:Option Value} {f:FuncId} {bh:bV} {hp db:Hp} {rs:List Nat} {xs:List (Array Value)} (ρ:cI) (cK:ct G) (hG:∀ k,k<100->hp k=G k) (h:Rn ρ hp db rs) (hi:IterX pn P G f bh hp rs xs):IterX pn P G f (bh.map (aA ρ)) db (rs.map ρ) xs:=by
 have tk:∀ x,da x=true->da (aA ρ x)=true:=λx hx=>by
  exact Ew
 have bflat:∀ k b,k<100->hp k=some b->b.rn ρ=b:=λk b hk hb=>by
  exact wQ
 have back:∀ k b,rst db (rs.map ρ) k=some b->∃ q c,rst hp rs q=some c/\ρ q=k/\b=c.rn ρ:=λk b hb=>by
  exact FN
 refine ⟨hi.enter,λx hx=>?_,λk b hb=>?_,λE l stop r S W fM hZ gu ba hlen hR hX hS kW=>?_⟩
 ·exact Fz
 ·exact Fx
 ·have dS:(bh.map (aA ρ)).map (ren r)=bh.map (ren λk=>r (ρ k)):=by
   exact Ga
  rw [dS];refine hi.run E l stop (λk=>r (ρ k)) S W fM (λk b hk=>⟨?_,hi.closed k b hk⟩) (λk l hk hl e=>?_) (λk hk hd=>?_) hlen hR hX hS (λi hd h1=>?_)
  ·exact CU
  ·exact FL
  ·exact D6
  ·exact Dq
end
theorem E1 {p:Prop} (h:p:=by
 have hh:=hw.keep i h1 hi;exact ⟨hh.1,by rw [hh.2];exact hk.2⟩):p:=h
section
variable {P:Program} {C:Ctx} {n:Nat} {d:List Deferred} {ro:Option Nat} {s:GS} {K:kV}
structure WeakR (C:Ctx) (ρ:cI) (s s':GS):Prop where
 ts:∀ t,s'.ts t=eY\/(s.ts t=ren ρ (s'.ts t)/\s.ts t≠eY/\aN (dom s'.hp) (s'.ts t))
 hp:∀ k b,s'.hp k=some b->100<=k->s.hp (ρ k)=some (b.rn ρ)/\100<=ρ k
 ids:∀ k b,s'.hp k=some b->b.ids (dom s'.hp)
 inj:∀ k l,dom s'.hp k->dom s'.hp l->ρ k=ρ l->k=l
 id:∀ k,k<100->ρ k=k
 rest:∀ k b,k<100->C.G k=some b->b.rn ρ=b
 keep:∀ k,100<=k->dom C.hp0 k->dom s'.hp k/\ρ k=k
 glob:∀ k,k<100->s'.hp k=C.G k
 yc:s'.yc=s.yc
 free:∀ x,s'.B<=x->s'.hp x=none
 low:100<=s'.B
theorem GI.rename {ρ:cI} {r:cI} {a:Act} {W:World} {s':GS} (h:GI P C n d r s a W) (hw:WeakR C ρ s s'):GI P C n d (λk=>r (ρ k)) s' a W:=by
 have sub:∀ k b,s'.hp k=some b->s.hp (ρ k)=some (b.rn ρ):=λk b hb=>by
  by_cases hk:100<=k
  ·exact (hw.hp k b hb hk).1
  ·have hg:C.G k=some b:=(hw.glob k zO).symm.trans hb;rw [hw.id k zO,hw.rest k b zO hg,h.ri.glob k zO];exact hg
 have subd:∀ k,dom s'.hp k->dom s.hp (ρ k):=λk hk=>by
  unfold dom at hk
  cases hb:s'.hp k with
  | none=>exact absurd hb hk
  | some b=>unfold dom;rw [sub k b hb];simp
 refine ⟨{ h.ri with rel:=λt=>?_,sat:=λk b hb=>?_,inj:=λk l hk hl e=>hw.inj k l hk hl (h.ri.inj _ _ (subd k hk) (subd l hl) e),ext:=?_,keep:=λi hi=>?_,glob:=hw.glob,low:=λk hk hd=>?_ },hw.free,hw.low,h.flat,h.rounds⟩
 ·rcases hw.ts t with e|⟨e,df,hi⟩
  ·exact .inl e
  ·have e':=(h.ri.rel t).resolve_left df;refine .inr ⟨?_,hi⟩;rw [e'.1,e,jf]
 ·have hs:=(h.ri.sat _ _ (sub k b hb)).1;rw [Blk.rn_obj] at hs;exact ⟨hs,hw.ids k b hb⟩
 ·obtain ⟨S,ms,h1,h2,h3,h4⟩:=h.ri.ext;refine ⟨S,ms,rv,h2,λi hi jU=>?_,h4⟩;refine h3 _ (subd i hi) ?_;unfold dom at hi
  cases hb:s'.hp i with
  | none=>exact absurd hb hi
  | some b=>exact (hw.hp i b hb jU).2
 ·have hk:=h.ri.keep i hi;by_cases h1:100<=i
  ·exact E1
  ·refine ⟨?_,by rw [hw.id i zO];exact hk.2⟩;unfold dom;rw [hw.glob i zO,<-h.ri.glob i zO];exact hk.1
 ·have tV:=subd k hd;rw [hw.id k hk] at tV |-;exact h.ri.low k hk tV
theorem uw {c:Code} (I:Nat->GS->Prop) {m0:Nat} {s0:GS} (hw:Weak C s s0) (h0:I m0 s0)
  (round:∀ m s,I m s->GW P C n d ro c s (dU (λs'=>∃ ρ vB m',WeakR C ρ s' vB/\I m' vB/\m'<m) K)):GW P C n d ro (.loop c) s K:=by
 have key:∀ (m:Nat) (s:GS),I m s->∀ r a W,GI P C n d r s a W->∀ (b:Frame) (k:List Item) (cs:List Frame),b.roundOf=ro ->
   (Fs P).fn b.fn->∃ e a' w',(∃ s' r',K e s'/\GI P C n d r' s' a' w')/\ArrivesIn (Machine.fenced P (Fw P ro)) P (lone (b.atR a (.code c::.inLoop c::k)) cs W) b k cs e a' w':=by
  intro m
  induction m using Nat.strongRecOn with
  | _ m ih =>
   intro s hI r a W hi b k cs Jn Gw;obtain ⟨e,a₁,w₁,⟨s',r',hk,cv⟩,gz⟩:=round m s hI r a W hi b (.inLoop c::k) cs Jn Gw (mJ P _)
   cases e with
   | normal =>
    obtain ⟨ρ,vB,m',XI,Xo,cA⟩:=hk;obtain ⟨e₂,a₂,w₂,PV,qT⟩:=ih m' cA vB Xo _ a₁ w₁ (cv.rename XI) b k cs Jn Gw;exact sn
   | exit id=>exact ⟨_,a₁,w₁,⟨s',r',hk,cv⟩,.pass (x:=.inLoop c) rfl (λ_ _=>.inl zS) gz⟩
   | goto l=>exact ⟨_,a₁,w₁,⟨s',r',hk,cv⟩,.pass (x:=.inLoop c) rfl (λ_ _=>.inl zS) gz⟩
   | ret=>exact ⟨_,a₁,w₁,⟨s',r',hk,cv⟩,.pass (x:=.inLoop c) rfl (λ_ _=>.inl zS) gz⟩
   | panic ch=>exact ⟨_,a₁,w₁,⟨s',r',hk,cv⟩,.pass (x:=.inLoop c) rfl (λ_ _=>.inl zS) gz⟩
   | outgrown=>exact ⟨_,a₁,w₁,⟨s',r',hk,cv⟩,.pass (x:=.inLoop c) rfl (λ_ _=>.inl zS) gz⟩
 intro r a W hi;intro b k cs Jn hb hr;exact E5
end
theorem EV {p:Prop} (h:p:=by
 rcases nJ (l:=l) (t:=t) with h|h
 ·exact .inl h
 ·exact .inr (hl _ h)):p:=h
abbrev u9 := @List.append_toArray
section
variable {P:Program} {C:Ctx} {n:Nat} {d:List Deferred} {ro:Option Nat} {s:GS} {K:kV}
def tP (P:Program) (T:TypeId):Option Nat:=(P.info? T).map (·.bytes)
theorem Wj {o:Oper} {ts:eM} {hp:Hp} {nk:Nat} {next:(Nat->Value)->Hp->Prop} {tx ty:Tmp} {t e:TypeId} {sz BN:Nat} {z:Value} {k j ao sl cap m m':Nat} {c nw:List Value} {b2:Blk}
  (ho:o.op=.call { callee:=.builtin .append,args:=#[.tmp tx,.tmp ty],argTypes:=#[t,t] }) (ht:P.underlying t=some (.slice e)) (hs:bA P e=some sz) (hz:cT P e=some z) (L4:tP P e=some BN)
  (hx:ts tx=.slice (some ⟨k,0,none⟩) sl cap) (hk:100<=k) (hb:hp k=some ⟨c.toArray,.ty e⟩) (Sg:∀ x∈c,bP x=true)
  (hy:ts ty=.slice (some ⟨j,ao,none⟩) m m') (mU:hp j=some b2) (Lb:∀ q u,nw[q]? = some u->b2.c[ao+q]? = some u) (HO:∀ x∈nw,bP x=true) (h1:∀ u∈nw,u.oneCell'=true) (y9:∀ q,∀ x∈Builtin.zeroCells z.cells q,bP x=true)
  (hm:m*sz=nw.length) (hc:cap*sz<=c.length) (M5:sl<=cap) (BU:sl+m<=maxLen) (pV:(sl+m)*BN<=140737488355328)
  (room:sl+m<=cap->next (dk ts o.dst (.slice (some ⟨k,0,none⟩) (sl+m) cap)) (upd hp k (some ⟨(c.take (sl*sz)++nw++c.drop (sl*sz+nw.length)).toArray,.ty e⟩)))
  (grow:cap<sl+m->∀ cW,sl+m<=cW->next (dk ts o.dst (.slice (some ⟨nk,0,none⟩) (sl+m) cW)) (upd hp nk (some ⟨(c.take (sl*sz)++nw++(Builtin.zeroCells z.cells (cW - (sl+m))).toList).toArray,.ty e⟩))) (JZ:b2.T.rd=true:=by first|rfl|assumption):afC P o ts hp nk next:=by
 unfold bA at hs;unfold cT at hz;unfold tP at L4
 cases hi:P.info? e with
 | none=>rw [hi] at hs;cases hs
 | some i =>
  rw [hi] at hs hz L4;simp only [gL,bg,lC] at hs hz L4;subst hs;subst L4;refine ⟨tx,ty,t,e,i,z,k,j,ao,sl,cap,m,m',_,_,nw,ho,ht,hi,hz,hx,hk,hb,rfl,by simpa using Sg,hy,mU,JZ,hm.symm,Lb,HO,h1,y9,?_,M5,BU,pV,λhr=>?_,λhr cW yz=>?_⟩
  ·simpa using hc
  ·have:=room hr;exact this
  ·have:=grow hr cW yz
   rw [show ((c.take (sl*i.size)).toArray++nw.toArray++Builtin.zeroCells z.cells (cW - (sl+m)))=(c.take (sl*i.size)++nw++(Builtin.zeroCells z.cells (cW - (sl+m))).toList).toArray by
    rw [<-u9,<-u9,nR]]
   exact this
theorem aaM {o:Oper} {ts:eM} {hp:Hp} {nk:Nat} {next:(Nat->Value)->Hp->Prop} {tx ty:Tmp} {t e:TypeId} {sz BN:Nat} {z:Value} {k j sl cap m m':Nat} {c c2:List Value} {T2:BTy}
  (ho:o.op=.call { callee:=.builtin .append,args:=#[.tmp tx,.tmp ty],argTypes:=#[t,t] }) (ht:P.underlying t=some (.slice e)) (hs:bA P e=some sz) (hz:cT P e=some z) (L4:tP P e=some BN)
  (hx:ts tx=.slice (some ⟨k,0,none⟩) sl cap) (hk:100<=k) (hb:hp k=some ⟨c.toArray,.ty e⟩) (Sg:∀ x∈c,bP x=true)
  (hy:ts ty=.slice (some ⟨j,0,none⟩) m m') (mU:hp j=some ⟨c2.toArray,T2⟩) (HO:∀ x∈c2,bP x=true) (h1:∀ u∈c2,u.oneCell'=true) (y9:∀ q,∀ x∈Builtin.zeroCells z.cells q,bP x=true)
  (hm:m*sz=c2.length) (hc:cap*sz<=c.length) (M5:sl<=cap) (BU:sl+m<=maxLen) (pV:(sl+m)*BN<=140737488355328)
  (room:sl+m<=cap->next (dk ts o.dst (.slice (some ⟨k,0,none⟩) (sl+m) cap)) (upd hp k (some ⟨(c.take (sl*sz)++c2++c.drop (sl*sz+c2.length)).toArray,.ty e⟩)))
  (grow:cap<sl+m->∀ cW,sl+m<=cW->next (dk ts o.dst (.slice (some ⟨nk,0,none⟩) (sl+m) cW)) (upd hp nk (some ⟨(c.take (sl*sz)++c2++(Builtin.zeroCells z.cells (cW - (sl+m))).toList).toArray,.ty e⟩))) (JZ:T2.rd=true:=by first|rfl|assumption):afC P o ts hp nk next :=
 Wj ho ht hs hz L4 hx hk hb Sg hy mU (λq u hq=>by simpa using hq) HO h1 y9 hm hc M5 BU pV room grow JZ
theorem pT {G:Hp} {m m0:bS} (ρ:cI) (l:List (Nat×Value)) (B:Nat) (hG:C.G=G) (cK:ct G) (h0:C.hp0=hpL G m0) (hB:100<=B)
  (hl:∀ p∈l,s.ts p.1=ren ρ p.2/\s.ts p.1≠eY/\aN (dom (hpL G m)) p.2)
  (hm:∀ p∈m,s.hp (ρ p.1)=some (p.2.rn ρ)/\p.2.ids (dom (hpL G m))/\100<=p.1/\p.1<B/\100<=ρ p.1)
  (hi:∀ p∈m,∀ q∈m,ρ p.1=ρ q.1->p.1=q.1) (iZ:∀ k,k<100->ρ k=k)
  (hk:∀ p∈m0,100<=p.1/\dom (hpL G m) p.1/\ρ p.1=p.1):WeakR C ρ s ⟨tsL l,hpL G m,B,s.yc⟩ where
 ts t:=by
  exact EV
 hp k b hb h1:=by
  rcases cB hb with h|h
  ·exact ⟨(hm _ h).1,(hm _ h).2.2.2.2⟩
  ·have:=(cK k b h).1;omega
 ids k b hb:=by
  exact Ff
 inj k q g8 hq e:=by
  dsimp only at g8 hq;unfold dom at g8 hq
  cases hb:hpL G m k with
  | none=>exact absurd hb g8
  | some b =>
   cases hc:hpL G m q with
   | none=>exact absurd hc hq
   | some c =>
    rcases cB hb with h|h<;>rcases cB hc with h'|h'
    ·exact hi _ h _ h' e
    ·have h2:=(cK q c h').1;rw [iZ q h2] at e;have:=(hm _ h).2.2.2.2;simp at this;omega
    ·have h2:=(cK k b h).1;rw [iZ k h2] at e;have:=(hm _ h').2.2.2.2;simp at this;omega
    ·have h2:=(cK k b h).1;have h3:=(cK q c h').1;rw [iZ k h2,iZ q h3] at e;exact e
 id:=iZ
 rest k b cA hb:=by
  rw [hG] at hb;exact Blk.rn_flat (cK k b hb).2
 keep k h1k hd:=by
  rw [h0] at hd;exact FP
 glob k cA:=Ci
 yc:=rfl
 free x hx:=by
  dsimp only at hx |-
  cases hb:hpL G m x with
  | none=>rfl
  | some b =>
   rcases cB hb with h|h
   ·have:=(hm _ h).2.2.2.1;simp at this;omega
   ·have:=(cK x b h).1;omega
 low:=hB
end
theorem IT {z:bV} {n:Nat} {x:Value} (h:x∈Builtin.zeroCells z n):x∈z:=by
 simp only [Builtin.zeroCells,dA,Array.mem_range] at h;obtain ⟨w,hw,rfl⟩:=h;have hz:0<z.size:=Nat.pos_of_ne_zero λe=>by rw [e] at hw;simp at hw
 have cA:=Nat.mod_lt w hz;rw [getElem!_pos z _ cA];exact jj cA
theorem LY (z:bV) (n:Nat):(Builtin.zeroCells z n).size=n*z.size:=by simp [Builtin.zeroCells]
section
variable {P:Program} {G:Hp} {V:XV}
theorem nH {ops:Array Oper} {base:Nat} {Q:QQ}:∀ (l:og) (seen:List (Option Tmp)) (k:Nat) (ts:eM) (hp:Hp) (tr:Tr) (yc:Nat) (wr yd:Bool),(∀ j,j<k->(seen[k - 1 - j]?).bind id=(ops[j]?).bind (·.dst))->(∀ i,i<l.length->l[i]? = ops[k+i]?) ->
  pd P G V base Q seen k l ts hp tr yc wr yd->sX P G V ops base Q.q Q.p k l ts hp tr yc wr yd
 | [],_,_,_,_,_,_,_,_,_,_,h=>h
 | o::l,seen,k,ts,hp,tr,yc,wr,yd,hs,hl,h=>by
  have ho:ops[k]? = some o:=by have:=hl 0 zS;simpa using this.symm
  have BT:∀ j,j<k+1->((o.dst::seen)[k+1 - 1 - j]?).bind id=(ops[j]?).bind (·.dst):=λj hj=>by
   exact F8
  have zu:∀ i,i<l.length->l[i]? = ops[k+1+i]?:=λi hi=>by
   have:=hl (i+1) aE;rw [qE] at this;rw [this];congr 1;omega
  simp only [pd] at h;simp only [sX]
  cases hw:po seen k o ts with
  | none=>rw [hw] at h;exact h.elim
  | some b =>
   rw [hw] at h;rw [IN hs hw]
   cases b with
   | true =>
    rw [KA] at h;refine NA (λe he=>⟨he.1,?_⟩) h;have he:=he.2
    cases o7:e.pan with
    | none=>rw [o7] at he;exact nH l _ _ _ _ _ _ _ _ BT zu he
    | some pv=>rw [o7] at he;exact ⟨λhd=>by simpa using he.1 hd,he.2⟩
   | false=>exact ⟨h.1,nH l _ _ _ _ _ _ _ _ BT zu h.2⟩
end
section
variable {P:Program} {C:Ctx} {n:Nat} {d:List Deferred} {ro:Option Nat} {s:GS} {K:kV}
end
theorem CR {p:Prop} (h:p:=by cases hy;exact ⟨λc x S W _ hx=>by simp [YG.still] at hx,eG⟩):p:=h
theorem Cv {p:Prop} (h:p:=by exact ⟨hd,.returning,by rw [hc],v,hv,⟨_,rfl⟩,rfl,rfl⟩):p:=h
theorem CG {p:Prop} (h:p:=by dsimp only at e;rw [e] at h2;exact absurd h2 (by simp [nj,eY])):p:=h
theorem FB {p:Prop} (h:p:=by
 exact ⟨e,a',w',hq,.of_steps (.one (fenced_calm hb hr rfl) stepR_loop) gz⟩):p:=h
theorem Gn {p:Prop} (h:p:=by
 rw [(ig i jU).2,Blk.obj_congr (λk hk=>(ig k hk).2) (mM i b hb)] at this;rw [this,(hZ i b hb).1]):p:=h
theorem DK {p:Prop} (h:p:=by
 rw [jg (λk hk=>cm.1 k hk) fp.1] at eE;exact ⟨_,eE,rfl,cm.2⟩):p:=h

section
variable {P:Program} {G:Hp}

def GWL (P:Program) (C:Ctx) (n:Nat) (d:List Deferred) (ro:Option Nat) (c:Code) (s:GS) (K:kV):Prop :=
 ∀ r a W,GI P C n d r s a W->∀ (b:Frame) (k:List Item) (cs:List Frame),b.roundOf=ro->(Fs P).fn b.fn ->
  ∃ e a' w',(∃ s' r',K e s'/\GI P C n d r' s' a' w')/\ArrivesIn (Machine.fenced P (Fw P ro)) P (lone (b.atR a (.code c::.inLoop c::k)) cs W) b k cs e a' w'
theorem cH {C:Ctx} {n:Nat} {d:List Deferred} {ro:Option Nat} {c:Code} {s:GS} {K:kV} (h:GWL P C n d ro c s K):GW P C n d ro (.loop c) s K:=by
 intro r a W hi b k cs Jn hb hr;obtain ⟨e,a',w',hq,gz⟩:=h r a W hi b k cs Jn hb;exact FB
theorem dc {C:Ctx} {n:Nat} {d:List Deferred} {ro:Option Nat} {c:Code} {s:GS} {K:kV} (h:GW P C n d ro c s (dU (λs'=>GWL P C n d ro c s' K) K)):GWL P C n d ro c s K:=by
 intro r a W hi b k cs Jn Gw;obtain ⟨e,a₁,w₁,⟨s',r',hk,cv⟩,gz⟩:=h r a W hi b (.inLoop c::k) cs Jn Gw (mJ P _)
 cases e with
 | normal =>
  obtain ⟨e₂,a₂,w₂,PV,qT⟩:=hk r' a₁ w₁ cv b k cs Jn Gw;exact sn
 | exit id=>exact ⟨_,a₁,w₁,⟨s',r',hk,cv⟩,.pass (x:=.inLoop c) rfl (λ_ _=>.inl zS) gz⟩
 | goto l=>exact ⟨_,a₁,w₁,⟨s',r',hk,cv⟩,.pass (x:=.inLoop c) rfl (λ_ _=>.inl zS) gz⟩
 | ret=>exact ⟨_,a₁,w₁,⟨s',r',hk,cv⟩,.pass (x:=.inLoop c) rfl (λ_ _=>.inl zS) gz⟩
 | panic ch=>exact ⟨_,a₁,w₁,⟨s',r',hk,cv⟩,.pass (x:=.inLoop c) rfl (λ_ _=>.inl zS) gz⟩
 | outgrown=>exact ⟨_,a₁,w₁,⟨s',r',hk,cv⟩,.pass (x:=.inLoop c) rfl (λ_ _=>.inl zS) gz⟩
theorem nh {C:Ctx} {n:Nat} {d:List Deferred} {ro:Option Nat} {c rest:Code} {s:GS} {K:kV} (l:Nat) (I:Nat->GS->Prop) (BR:findLabel c l=some (.seq .skip rest))
  (pass:∀ m s,I m s->GW P C n d ro rest s (sV l (λs'=>∃ vB m',Weak C s' vB/\I m' vB/\m'<m) K))
  (first:(∀ m s s',Weak C s' s->I m s->GW P C n d ro rest s' (sV l (λs'=>∃ vB m',Weak C s' vB/\I m' vB) K))->GW P C n d ro c s (sV l (λs'=>∃ vB m',Weak C s' vB/\I m' vB) K)):GW P C n d ro (.scope c) s K :=
 VU l I BR (first λm s s' hw hI=>GM hw (iu (pass m s hI) λe s h=>by
  cases e<;>first|exact h|exact ⟨h.1,let ⟨vB,m',h1,h2,_⟩:=h.2;⟨vB,m',h1,h2⟩⟩)) λm s hI=>te (Rd (pass m s hI))
theorem zN {n B:Nat} {hp:Hp} {ts:eM} {r:cI} {a:Act} {W:World} (cK:ct G) (yg:a.tmps.size=n) (hd:a.defers=[]) (XF:Rel r (dom hp) ts a)
  (hZ:Sat r (dom hp) hp W) (gu:Inj r (dom hp)) (ba:∀ k,k<100->dom hp k->r k=k) (hG:∀ k,k<100->hp k=G k) (dx:∀ x,B<=x->hp x=none) (hB:100<=B) :
  GI P ⟨iI W (imO r hp),hp,r,G,some .still⟩ n [] r ⟨ts,hp,B,0⟩ a W:=by
 have VE:∀ k,dom hp k->r k<W.heap.size:=λk hk=>by
  unfold dom at hk
  cases hb:hp k with
  | none=>exact absurd hb hk
  | some b=>exact (a9.1 (hZ k b hb).1).1
 exact ⟨⟨yg,XF,hZ,gu,⟨λk=>k<W.heap.size/\¬imO r hp k,[],⟨λ_=>jr,rfl,rfl,rfl,aG _,λ_ _=>rfl⟩,λk hk=>hk.1,λi hi _ hS=>hS.2 ⟨i,hi,rfl⟩,⟨by simp [hd],jZ⟩,zS⟩,
   λi hi=>⟨hi,rfl⟩,hG,ba⟩,dx,hB,cK,λy hy=>CR⟩

theorem RI.still {C:Ctx} {n:Nat} {d:List Deferred} {r:cI} {ts:eM} {hp:Hp} {yc:Nat} {a:Act} {W:World} (h:RI C n d r ts hp yc a W) (hY:C.Y=some .still):a.defers=d:=by
 obtain ⟨S,ms,_,_,_,⟨h4,_⟩,h5⟩:=h.ext
 cases ms with
 | nil=>simpa using h4
 | cons D ms=>exact absurd hY (h5 D zS).2.2

theorem Qz {C:Ctx} {n:Nat} {d:List Deferred} {r r':cI} {ts:eM} {hp hp0:Hp} {yc:Nat} {a':Act} {W W':World} {ws:bS} (h:RI C n d r' ts hp yc a' W') (hE:C.E=iI W (imO r hp0))
  (hk0:∀ k,dom hp0 k->dom C.hp0 k/\C.r0 k=r k) (hZ:Sat r (dom hp0) hp0 W) (mM:∀ k b,hp0 k=some b->b.ids (dom hp0)) (yY:∀ k,dom hp0 k->hp k=bW hp0 ws k)
  (OU:∀ k∈ak ws,dom hp0 k) (once:∀ k b c,(k,b)∈ws->(k,c)∈ws->b=c) (iZ:∀ p∈ws,p.2.ids (dom hp0)):(∀ k,dom hp0 k->r' k=r k)/\Turn r (cJ (dom hp0) []) W W' ws []:=by
 obtain ⟨S,ms,hX,MP,HM,_,_⟩:=h.ext;rw [hE] at hX;obtain ⟨hS,os,tape,output,size,mH⟩:=hX
 have ig:∀ i,dom hp0 i->dom hp i/\r' i=r i:=λi hi=>by
  have h1:=hk0 i hi;have h2:=h.keep i h1.1;exact ⟨h2.1,h2.2.trans h1.2⟩
 refine ⟨λk hk=>(ig k hk).2,os,tape,output,size,λk hk Lb=>?_,λp hp1=>?_,zS,zS⟩
 ·by_cases g8:imO r hp0 k
  ·obtain ⟨i,jU,rfl⟩:=g8;have hiw:i∉ak ws:=λhm=>CO
   cases hb:hp0 i with
   | none=>exact absurd hb jU
   | some b =>
    have e:hp i=some b:=by rw [yY i jU,dw hiw];exact hb
    have:=(h.sat i b e).1;exact Gn
  ·exact mH k ((hS k).2 ⟨hk,g8⟩)
 ·simp only [dY] at hp1;have hdm:dom hp0 p.1:=OU p.1 (aI.2 ⟨p,hp1,rfl⟩);have e:hp p.1=some p.2:=by rw [yY _ hdm];exact Kx hp1 once
  have:=(h.sat _ _ e).1;have hi:=iZ p hp1;rw [(ig _ hdm).2,Blk.obj_congr (λk hk=>(ig k hk).2) hi] at this;exact ⟨this,Blk.ids_mono (λk hk=>.inl hk) hi⟩

theorem adm {r:cI} {D:gA} {A:bV} {ds:List Deferred} (h:∀ x∈A,aN D x):Rel r D (λt=>A.getD t undef) { tmps:=A.map (ren r),defers:=ds }:=λt=>by
 right
 dsimp only;by_cases ht:t<A.size
 ·have e:A.getD t undef=A[t]:=by simp [Array.getD,ht]
  rw [e];exact ⟨wK,h _ (jj ht)⟩
 ·have e:A.getD t undef=undef:=by simp [gN (lA ht)]
  rw [e];exact ⟨by rw [ir];simp [gN (lA ht)],kT _⟩

def Y8 (pv:Value):FrameMode:=.panicking [{ v:=pv,recovered:=true }]
def Ux (pv:Value):FrameMode:=.panicking [{ v:=pv,recovered:=false }]

structure RecF (P:Program) (G:Hp) (h:FuncId) (bh:bV) (hp:Hp) (rs:List Nat) (pv:Value) (ws:bS):Prop where
 fn:∃ fn,P.funcs[h]? = some fn
 enter:∀ a w,(callFunc h a).run P w=.ok (.enter h a) w
 back:∀ args W,args.size=bh.size->CallsDIn (Fs P) 0 P h args .returning W λe u' W'=>(∃ v,e=.returned v)/\u'=.returning/\W'=W
 caught:∀ r W,Sat r (dom (rst hp rs)) (rst hp rs) W->Inj r (dom (rst hp rs))->(∀ k,k<100->dom (rst hp rs) k->r k=k) ->
  CallsDIn (Fs P) 0 P h (bh.map (ren r)) (Ux pv) W λe u' W'=>(∃ v,e=.returned v)/\u'=Y8 pv/\Turn r (cJ (dom (rst hp rs)) []) W W' ws []

theorem AU {h:FuncId} {fn:Func} {id:Nat} {ops:Array Oper} {rest:Code} {bh A:bV} {hp:Hp} {rs:List Nat} {pv:Value} {ws:bS} {B:Nat} (cK:ct G) (hG:∀ k,k<100->hp k=G k)
  (hf:P.funcs[h]? = some fn) (hb:fn.body=some (.seq (.region id ops false) rest)) (hA:A.size=fn.ntmps) (yA:∀ x∈A,aN (dom (rst hp rs)) x)
  (agw:∀ (r:cI) (c₀:Frame) (cs:List Frame) (W:World) (Q:Exit->Act->List Frame->World->Prop),c₀.mode=Ux pv->Q .normal { tmps:=A.map (ren r),defers:=[] } ({ c₀ with mode:=Y8 pv }::cs) W ->
   wpOpsSIn (Fs P) 0 P ops Q (List.range ops.size) { tmps:=bh.map (ren r)++Array.replicate (fn.ntmps - (bh.map (ren r)).size) undef,defers:=[] } (c₀::cs) W)
  (mM:∀ k b,rst hp rs k=some b->b.ids (dom (rst hp rs))) (OU:∀ k∈ak ws,dom (rst hp rs) k) (once:∀ k b c,(k,b)∈ws->(k,c)∈ws->b=c) (iZ:∀ p∈ws,p.2.ids (dom (rst hp rs)))
  (hB:100<=B) (dx:∀ x,B<=x->rst hp rs x=none)
  (z4:∀ C:Ctx,C.G=G->C.hp0=rst hp rs->C.Y=some .still->GW P C fn.ntmps [] none rest ⟨λt=>A.getD t undef,rst hp rs,B,0⟩ λe s=>(e=.normal\/e=.ret)/\(qa P fn.results.toList s.ts s.hp).isSome=true/\∀ k,dom (rst hp rs) k->s.hp k=bW (rst hp rs) ws k)
  (r:cI) (W:World) (hZ:Sat r (dom (rst hp rs)) (rst hp rs) W) (gu:Inj r (dom (rst hp rs))) (ba:∀ k,k<100->dom (rst hp rs) k->r k=k) :
  CallsDIn (Fs P) 0 P h (bh.map (ren r)) (Ux pv) W λe u' W'=>(∃ v,e=.returned v)/\u'=Y8 pv/\Turn r (cJ (dom (rst hp rs)) []) W W' ws []:=by
 refine callsDIn_of_wpSIn hf hb ⟨fn,hf⟩ λc₀ cs hu=>wpSIn_seq (wpSIn_region (agw r c₀ cs W _ hu (wpSIn_of_wpIn rfl ?_)));have hi:=zN (P:=P) (B:=B) (n:=fn.ntmps) (ts:=λt=>A.getD t undef) (a:={ tmps:=A.map (ren r),defers:=[] }) cK (by simp [hA]) rfl (adm yA) hZ gu ba (λk hk=>by simp [rst,hk,hG k hk]) dx hB;refine wpIn_mono (z4 _ rfl rfl rfl r _ W hi) ?_;rintro e a' W' ⟨s',r',⟨he,hr,yY⟩,cv⟩;have hd:=cv.ri.still rfl;have ht:=Qz cv.ri (r:=r) (hp0:=rst hp rs) rfl (λk hk=>⟨hk,rfl⟩) hZ mM yY OU once iZ
 cases hv:qa P fn.results.toList s'.ts s'.hp with
 | none=>rw [hv] at hr;cases hr
 | some v =>
  have eE:=jP (fn:=fn) cv.ri.rel cv.ri.sat hv;rcases he with rfl|rfl
  ·exact ⟨hd,_,rfl,_,eE,⟨_,rfl⟩,rfl,ht.2⟩
  ·exact ⟨hd,_,rfl,_,eE,⟨_,rfl⟩,rfl,ht.2⟩

theorem KQ {h:FuncId} {fn:Func} {c:Code} {k:Nat} (hf:P.funcs[h]? = some fn) (hb:fn.body=some c)
  (hw:∀ (args:bV) (c₀:Frame) (cs:List Frame) (W:World),args.size=k->c₀.mode=.returning ->
   c.wpSIn (Fs P) 0 P (λe a WH W'=>(e=.normal\/e=.ret)/\a.defers=[]/\WH=c₀::cs/\W'=W/\∃ v,(results fn a.tmps).run P W=.ok v W) { tmps:=args++Array.replicate (fn.ntmps - args.size) undef,defers:=[] } (c₀::cs) W)
  (args:bV) (W:World) (hk:args.size=k):CallsDIn (Fs P) 0 P h args .returning W λe u' W'=>(∃ v,e=.returned v)/\u'=.returning/\W'=W:=by
 refine callsDIn_of_wpSIn hf hb ⟨fn,hf⟩ λc₀ cs hu=>?_;intro b k' hb hr hF XG;obtain ⟨e,a',WH,w',hl,⟨he,hd,rfl,rfl,v,hv⟩,gz⟩:=hw args c₀ cs W hk hu b k' hb hr hF XG;refine ⟨e,a',_,_,hl,?_,gz⟩;have hc:({ c₀ with mode:=.returning }:Frame)=c₀:=by rw [<-hu]
 rcases he with rfl|rfl
 ·exact Cv
 ·exact Cv

theorem RecF.under {h:FuncId} {bh:bV} {hp db:Hp} {rs:List Nat} {pv:Value} {ws:bS} (hr:RecF P G h bh db rs pv ws) (e:∀ k,(k<100\/k∈rs)->db k=hp k):RecF P G h bh hp rs pv ws :=
 ⟨hr.fn,hr.enter,hr.back,by rw [<-pz e];exact hr.caught⟩

theorem KW {n:Nat} {id t:Nat} {h:FuncId} {cs:Array Operand} {ty1 ty2:TypeId} {ps1 ps2:String} {af2:Array Edge} {Q:Exit->Act->World->Prop} {a:Act} {W:World} (ht:t<a.tmps.size)
  (hQ:Q .normal { a.put (some t) (.func (.func h) #[] (cs.map a.eval)) with defers:=⟨.fn (.func h) (cs.map a.eval),#[]⟩::a.defers } W) :
  (Code.region id [⟨some t,.makeFunc (.func h) #[] cs,ty1,ps1,#[],none⟩,⟨none,.defer ⟨.value (.tmp t),#[],#[]⟩,ty2,ps2,af2,none⟩].toArray false).wpIn (Fw P none) n P Q a W:=by
 refine wpIn_region_lit (wpListIn_plain rfl λK hK=>?_);refine ⟨λf hf=>by simp [Oper.about] at hf,?_⟩;have e:(Fw P none).round=none:=rfl;rw [e,Oper.semAt_none]
 have eE:(execOp a.eval ⟨some t,.makeFunc (.func h) #[] cs,ty1,ps1,#[],none⟩).run P W=.ok (.value (.func (.func h) #[] (cs.map a.eval))) W:=by
  simp [execOp,Instr.makeFunc]
 rw [eE];refine hK _ _ (wpListIn_plain rfl λK hK=>?_);refine ⟨λf hf=>by simp [Oper.about] at hf,?_⟩;rw [e,Oper.semAt_none];have RH:(a.put (some t) (.func (.func h) #[] (cs.map a.eval))).eval (.tmp t)=.func (.func h) #[] (cs.map a.eval):=by simp [Act.eval,Act.put,ht]
 have eE:(execOp (a.put (some t) (.func (.func h) #[] (cs.map a.eval))).eval ⟨none,.defer ⟨.value (.tmp t),#[],#[]⟩,ty2,ps2,af2,none⟩).run P W=.ok (.defer ⟨.fn (.func h) (cs.map a.eval),#[]⟩) W:=by
  simp [execOp,resolve,RH,Deferred.ofValue]
 dsimp only;rw [eE];exact hK _ _ (wpListIn_nil hQ)

inductive REnd
 | ret (v:Value) (ws:bS)
 | pan (pv:Value) (Zb:List Nat) (SR:bS) (v:Value)
def REnd.res:REnd->Res
 | .ret v ws=>.ret v ws
 | .pan _ _ _ v=>.ret v []
def ank (P:Program) (G:Hp) (fn:Func) (h:FuncId) (jS:bV) (hp hp1:Hp) (out:REnd) (e:Exit) (s:GS):Prop :=
 match out with
 | .ret v ws=>(e=.normal\/e=.ret)/\qa P fn.results.toList s.ts s.hp=some v/\∀ k,dom hp k->s.hp k=bW hp ws k
 | .pan pv Zb SR v=>e=.panic [{ v:=pv,recovered:=false }]/\qa P fn.results.toList s.ts (bW s.hp SR)=some v/\(∀ k,dom hp1 k->s.hp k=hp1 k)/\RecF P G h jS hp1 Zb pv SR/\(∀ k,dom (rst hp1 Zb) k->dom hp1 k) /\
   (∀ k∈ak SR,dom (rst hp1 Zb) k/\100<=k/\¬dom hp k)/\(∀ k b,rst hp1 Zb k=some b->b.ids (dom (rst hp1 Zb)))

theorem K0 {f h:FuncId} {fn:Func} {R0 rest:Code} {id t:Nat} {cs:Array Operand} {ty1 ty2:TypeId} {ps1 ps2:String} {af2:Array Edge} {args:bV} {hp hp1:Hp} {rs:List Nat} {ts1:eM} {B B1:Nat} {out:REnd} (jS:bV)
  (cK:ct G) (hG:∀ k,k<100->hp k=G k) (hf:P.funcs[f]? = some fn)
  (hb:fn.body=some (.seq R0 (.seq (.region id [⟨some t,.makeFunc (.func h) #[] cs,ty1,ps1,#[],none⟩,⟨none,.defer ⟨.value (.tmp t),#[],#[]⟩,ty2,ps2,af2,none⟩].toArray false) rest))) (ht:t<fn.ntmps)
  (eP:∀ a w,(callFunc f a).run P w=.ok (.enter f a) w) (Xt:∃ pv hp rs ws,RecF P G h jS hp rs pv ws)
  (ha:∀ x∈args,aN (dom (rst hp rs)) x) (mM:∀ k b,rst hp rs k=some b->b.ids (dom (rst hp rs))) (fp:out.res.fits hp rs) (hn:args.size<=fn.ntmps) (hB:100<=B) (dx:∀ x,B<=x->rst hp rs x=none)
  (hR0:∀ C:Ctx,C.G=G->C.hp0=rst hp rs->C.Y=some .still->GW P C fn.ntmps [] none R0 ⟨λt=>args.getD t undef,rst hp rs,B,0⟩ λe s=>e=.normal/\s=⟨ts1,hp1,B1,0⟩)
  (abY:∀ k,dom (rst hp rs) k->hp1 k=rst hp rs k)
  (K8:∀ o∈cs.toList,okT ts1 o/\∃ t',o=.tmp t') (hcd:cs.map (gev ts1)=jS) (tk:∀ x∈jS,da x=true)
  (z4:∀ (C:Ctx) (d:List Deferred),C.G=G->C.hp0=hp1->C.Y=some .still->GW P C fn.ntmps d none rest ⟨upd ts1 t (.func (.func h) #[] jS),hp1,B1,0⟩ (ank P G fn h jS (rst hp rs) hp1 out)) :
  Fun P G f args hp rs out.res:=by
 refine ⟨eP,ha,mM,fp,λr W fM hZ gu ba=>callsIn_of_wp_defers hf hb ⟨fn,hf⟩ ?_⟩
 have hi:=zN (P:=P) (B:=B) (n:=fn.ntmps) (ts:=λt=>args.getD t undef) (a:={ tmps:=args.map (ren r)++Array.replicate (fn.ntmps - (args.map (ren r)).size) undef,defers:=[] }) cK aE rfl ?_ hZ gu ba
  (λk hk=>by simp [rst,hk,hG k hk]) dx hB
 ·refine wpIn_seq (wpIn_mono (hR0 _ rfl rfl rfl r _ W hi) ?_);rintro e a1 W1 ⟨s1,r1,⟨rfl,rfl⟩,jU⟩;have RG:a1.defers=[]:=jU.ri.still rfl
  have RH:cs.map a1.eval=jS.map (ren r1):=by
   rw [<-hcd,fw];refine bK λo ho=>?_;obtain ⟨h1,t',rfl⟩:=K8 o rB;have h2:nj (ts1 t'):=h1;have h3:=(jU.ri.rel t').resolve_left (λe=>CG);exact h3.1
  have yA:∀ x∈jS,aN (dom hp1) x:=λx hx=>by
   rw [<-hcd] at hx;obtain ⟨o,ho,rfl⟩:=dA.1 hx;obtain ⟨h1,t',rfl⟩:=K8 o rB;have h2:nj (ts1 t'):=h1;have h3:=(jU.ri.rel t').resolve_left (λe=>CG);exact h3.2
  refine wpIn_seq (KW (by rw [jU.ri.size];exact ht) ?_);rw [RH,RG]
  have aqT:ren r1 (.func (.func h) #[] jS)=.func (.func h) #[] (jS.map (ren r1)):=by
   have e:jS.map (aA r1)=jS.map (ren r1):=bK λx hx=>(hU (tk x hx)).symm;simp [ren,aT,aw,e]
  have hi2:GI P ⟨iI W (imO r (rst hp rs)),hp1,r1,G,some .still⟩ fn.ntmps [⟨.fn (.func h) (jS.map (ren r1)),#[]⟩] r1 ⟨upd ts1 t (.func (.func h) #[] jS),hp1,B1,0⟩
    { a1.put (some t) (.func (.func h) #[] (jS.map (ren r1))) with defers:=[⟨.fn (.func h) (jS.map (ren r1)),#[]⟩] } W1:=by
   have:=jU.ri.put (dst:=some t) (v:=.func (.func h) #[] jS) (λd hd=>by cases hd;exact ht) ⟨zS,λx hx=>(jF (tk x hx)).1 (yA x hx)⟩;rw [aqT] at this;obtain ⟨S,ms,h1,h2,h3,h4,h5⟩:=jU.ri.ext;exact ⟨⟨this.size,this.rel,this.sat,this.inj,⟨S,[],h1,h2,h3,⟨rfl,jZ⟩,zS⟩,λi hi=>⟨hi,rfl⟩,this.glob,this.low⟩,jU.free,jU.low,cK,λy hy=>CR⟩
  refine wpIn_mono (z4 _ _ rfl rfl rfl r1 _ W1 hi2) ?_;rintro e a' W' ⟨s',r',aey,cv⟩;have hd:=cv.ri.still rfl;have hag:∀ k,dom (rst hp rs) k->dom hp1 k/\r1 k=r k:=λk hk=>⟨by unfold dom at hk |-;rw [abY k hk];exact hk,(jU.ri.keep k hk).2⟩
  have aev:∀ (W:World) g,(Target.fn (.func h) (jS.map (ren r1))).leads P W #[]=some g->(Fw P none).fn g:=λW g hg=>by
   simp [Target.leads] at hg;subst hg;obtain ⟨_,_,_,_,hr⟩:=Xt;exact hr.fn
  have hinv:∀ W:World,(invoke (.fn (.func h) (jS.map (ren r1))) #[]).run P W=.ok (.enter h (jS.map (ren r1))) W:=λW=>by
   obtain ⟨_,_,_,_,hr⟩:=Xt;simp [invoke,hr.enter]
  cases out with
  | ret v ws =>
   obtain ⟨he,hr,yY⟩:=aey
   have key:LeavesIn (Fw P none) 0 P fn a'.tmps ((Res.ret v ws).holds r (dom (rst hp rs)) W) a'.defers .returning W':=by
    rw [hd];refine leavesIn_cons zS (λh=>ew) (hinv W') (aev W') ?_;obtain ⟨_,_,_,_,IZ⟩:=Xt;refine CallsDIn.mono (IZ.back _ W' zS) ?_;rintro e u' gF ⟨⟨v',rfl⟩,rfl,rfl⟩;have eE:=jP (fn:=fn) cv.ri.rel cv.ri.sat hr
    have cm:=Qz cv.ri (r:=r) (hp0:=rst hp rs) rfl hag hZ mM yY (λk hk=>by
     have:=fp.2.1 k hk;unfold dom rst at *;simp [this.1];exact this.2.1) fp.2.2.1 fp.2.2.2
    exact DK
   rcases he with rfl|rfl<;>exact key
  | pan pv Zb SR v =>
   obtain ⟨rfl,hr,yY,n9,aqU,nz,aqS⟩:=aey;show LeavesIn (Fw P none) 0 P fn a'.tmps ((Res.ret v []).holds r (dom (rst hp rs)) W) a'.defers (.panicking _) W';rw [hd];refine leavesIn_cons zS (λh=>ew) (hinv W') (aev W') ?_;have RS:∀ k,dom hp1 k->r' k=r1 k:=λk hk=>(cv.ri.keep k hk).2
   have aeG:∀ k,dom (rst hp1 Zb) k->s'.hp k=rst hp1 Zb k:=λk hk=>by
    rw [yY k (aqU k hk)];unfold dom rst at hk;unfold rst;split
    ·rfl
    ·rename_i hh;simp [hh] at hk
   have dS:jS.map (ren r1)=jS.map (ren r'):=bK λx hx=>jg (λk hk=>(RS k hk).symm) (yA x hx);rw [dS];have WV:∀ k,dom (rst hp1 Zb) k->dom s'.hp k:=λk hk=>by unfold dom;rw [aeG k hk];exact hk
   refine CallsDIn.mono (n9.caught r' W' (λk b hk=>?_) (λk l hk hl=>cv.ri.inj k l (WV k hk) (WV l hl)) (λk hk g8=>cv.ri.low k hk (WV k g8))) ?_
   ·refine ⟨(cv.ri.sat k b ?_).1,aqS k b hk⟩;rw [aeG k gD];exact hk
   rintro e u' gF ⟨⟨v',rfl⟩,rfl,z5⟩;have Le:settle (Y8 pv)=.returning:=rfl;show LeavesIn _ _ _ _ _ _ [] (settle (Y8 pv)) gF;rw [Le]
   have I0:RI ⟨iI W (imO r (rst hp rs)),hp1,r1,G,some .still⟩ fn.ntmps [⟨.fn (.func h) (jS.map (ren r1)),#[]⟩] r' (dk s'.ts none undef) (bW s'.hp (SR++[])) s'.yc (a'.put none (ren r' undef)) gF:=by
    refine cv.ri.after (e:=⟨undef,[],SR,[],none,false⟩) (λ_ h=>ew) (λ_ _=>rfl) (kT _) ?_ (λk hk=>⟨WV k (nz k hk).1,(nz k hk).2.1⟩) ah;have mono:∀ k,cJ (dom (rst hp1 Zb)) [] k->cJ (dom s'.hp) [] k:=λk hk=>hk.imp (WV k) (λh=>h);exact ⟨z5.os,z5.tape,z5.output,z5.size,z5.same,λp hp1=>⟨(z5.has p hp1).1,Blk.ids_mono mono (z5.has p hp1).2⟩,z5.fresh,z5.apart⟩
   simp only [dY] at I0;have eE:=jP (fn:=fn) I0.rel I0.sat hr
   have cm:=Qz I0 (r:=r) (hp0:=rst hp rs) (ws:=[]) rfl hag hZ mM (λk hk=>by
    simp only [bW];rw [dw (λhm=>(nz k hm).2.2 hk),yY k (hag k hk).1,abY k hk]) ah zS zS
   exact DK
 ·intro t
  right
  exact xw
end
theorem vH {p:Prop} (h:p:=by rw [e3];exact nc):p:=h
theorem EW {p:Prop} (h:p:=by
 obtain ⟨y,hy,rfl⟩:=dA.1 hx;exact qV (λk hk=>h.dom1 hk) (hi.ids y hy)):p:=h
theorem sd {p:Prop} (h:p:=by
 obtain ⟨q,c,h1,rfl,rfl⟩:=h.back cK hG k b hb;exact Blk.ids_rn (λk hk=>h.dom1 hk) (hi.closed q c h1)):p:=h
theorem my {p:Prop} (h:p:=by
 rw [fw];exact bK λx _=>jf r ρ x):p:=h
theorem F3 {p:Prop} (h:p:=by
 exact Lb (ρ p.1,p.2.rn ρ) (by simp only [rnL,aD];exact ⟨p,hp1,rfl⟩)):p:=h
section
variable {P:Program} {G:Hp}
theorem GY {ρ:cI} {D D':gA} (h:∀ k,D k->D' (ρ k)) {v:Value} (hv:cp D v):cp D' (aT ρ v):=by
 cases v with
 | agg cs =>
  intro x hx;obtain ⟨y,hy,rfl⟩:=dA.1 hx;exact GZ h (hv y hy)
 | func f a b=>exact GZ (v:=.func f a b) h hv
 | iface t v=>exact GZ (v:=.iface t v) h hv
 | pointer p=>cases p<;>first|exact h _ hv|trivial
 | slice p _ _=>cases p<;>first|exact h _ hv|trivial
 | map p=>cases p<;>first|exact h _ hv|trivial
 | _=>trivial
theorem qV {ρ:cI} {D D':gA} (h:∀ k,D k->D' (ρ k)) {v:Value} (hv:aN D v):aN D' (ren ρ v):=by
 cases v with
 | tuple vs =>
  intro x hx;obtain ⟨y,hy,rfl⟩:=dA.1 hx;exact GY h (hv y hy)
 | agg cs=>exact GY (v:=.agg cs) h hv
 | func f a b=>exact GY (v:=.func f a b) h hv
 | iface t v=>exact GY (v:=.iface t v) h hv
 | pointer p=>cases p<;>first|exact h _ hv|trivial
 | slice p _ _=>cases p<;>first|exact h _ hv|trivial
 | map p=>cases p<;>first|exact h _ hv|trivial
 | _=>trivial
theorem Rn.bflat {ρ:cI} {hp:Hp} (cK:ct G) (hG:∀ k,k<100->hp k=G k) {k:Nat} {b:Blk} (hk:k<100) (hb:hp k=some b):b.rn ρ=b:=by
 exact wQ
theorem Rn.back {ρ:cI} {hp db:Hp} {rs:List Nat} (cK:ct G) (hG:∀ k,k<100->hp k=G k) (h:Rn ρ hp db rs) (k:Nat) (b:Blk) (hb:rst db (rs.map ρ) k=some b):∃ q c,rst hp rs q=some c/\ρ q=k/\b=c.rn ρ:=by
 unfold rst at hb;by_cases h1:k<100
 ·simp only [h1,kg,aU] at hb;have hl:=h.low k h1;rw [hl.2] at hb;exact ⟨k,b,by simp [rst,h1,hb],hl.1,(Rn.bflat cK hG h1 hb).symm⟩
 ·by_cases hm:k∈rs.map ρ
  ·exact ED
  ·simp [h1,hm] at hb
theorem Rn.mem {hp:Hp} {rs:List Nat} {k:Nat} (hk:dom (rst hp rs) k) (h1:100<=k):k∈rs:=by
 exact DP
theorem Rn.sat {ρ:cI} {hp db:Hp} {rs:List Nat} (cK:ct G) (hG:∀ k,k<100->hp k=G k) (h:Rn ρ hp db rs) (mM:∀ k b,rst hp rs k=some b->b.ids (dom (rst hp rs))) {r:cI} {W:World}
  (hZ:Sat r (dom (rst db (rs.map ρ))) (rst db (rs.map ρ)) W) (gu:Inj r (dom (rst db (rs.map ρ)))) (ba:∀ k,k<100->dom (rst db (rs.map ρ)) k->r k=k) :
  Sat (λk=>r (ρ k)) (dom (rst hp rs)) (rst hp rs) W/\Inj (λk=>r (ρ k)) (dom (rst hp rs))/\∀ k,k<100->dom (rst hp rs) k->r (ρ k)=k:=by
 refine ⟨λk b hk=>⟨?_,mM k b hk⟩,λk l hk hl e=>?_,λk hk hd=>?_⟩
 ·have hd:dom (rst hp rs) k:=by unfold dom;rw [hk];simp
  have tV:=h.dom1 hd;unfold dom at tV
  cases hb:rst db (rs.map ρ) (ρ k) with
  | none=>exact absurd hb tV
  | some b' =>
   have e:b'=b.rn ρ:=by
    unfold rst at hb hk;by_cases h1:k<100
    ·have hl:=h.low k h1;simp only [h1,kg,aU] at hk;rw [hl.1] at hb;simp only [h1,kg,aU] at hb;rw [hl.2,hk] at hb;cases hb;exact (Rn.bflat cK hG h1 hk).symm
    ·exact FI
   have:=(hZ _ b' hb).1;rw [e,Blk.rn_obj] at this;exact this
 ·have e2:=gu _ _ (h.dom1 hk) (h.dom1 hl) e;by_cases h1:k<100
  ·by_cases h2:l<100
   ·rw [(h.low k h1).1,(h.low l h2).1] at e2;exact e2
   ·have:=h.big l (Rn.mem hl zO) zO;rw [(h.low k h1).1] at e2;omega
  ·by_cases h2:l<100
   ·have:=h.big k (Rn.mem hk zO) zO;rw [(h.low l h2).1] at e2;omega
   ·exact h.inj k (Rn.mem hk zO) l (Rn.mem hl zO) zO zO e2
 ·have:=h.dom1 hd;rw [(h.low k hk).1] at this |-;exact ba k hk this
def rnL (ρ:cI) (ws:bS):List (Nat×Blk):=ws.map λp=>(ρ p.1,p.2.rn ρ)
theorem H3 {ρ:cI} {ws:bS} {k:Nat} (h:k∈ak (rnL ρ ws)):∃ q∈ak ws,ρ q=k:=by
 simp only [ak,rnL,lx,aD,Function.comp] at h |-;obtain ⟨p,hp,rfl⟩:=h;exact ⟨p.1,⟨p,hp,rfl⟩,rfl⟩
theorem Fun.rn {f:FuncId} {args:bV} {hp db:Hp} {rs:List Nat} {v:Value} {ws:bS} (ρ:cI) (cK:ct G) (hG:∀ k,k<100->hp k=G k) (h:Rn ρ hp db rs) (hi:Fun P G f args hp rs (.ret v ws)) :
  Fun P G f (args.map (ren ρ)) db (rs.map ρ) (.ret (ren ρ v) (rnL ρ ws)):=by
 refine ⟨hi.enter,λx hx=>?_,λk b hb=>?_,⟨qV (λk hk=>h.dom1 hk) hi.fits.1,λk hk=>?_,λk b c h1 h2=>?_,λp hp1=>?_⟩,λr W fM hZ gu ba=>?_⟩
 ·exact EW
 ·exact sd
 ·obtain ⟨q,hq,rfl⟩:=H3 hk;have h1:=hi.fits.2.1 q hq;obtain ⟨c,e1,e2⟩:=h.at' q h1.1 h1.2.2;exact ⟨aD.2 ⟨q,h1.1,rfl⟩,by unfold dom;rw [e2];simp,h.big q h1.1 h1.2.2⟩
 ·simp only [rnL,aD,dM] at h1 h2;obtain ⟨p,hp1,e1,rfl⟩:=h1;obtain ⟨q,nc,e2,rfl⟩:=h2;have k1:=hi.fits.2.1 p.1 (aI.2 ⟨p,hp1,rfl⟩);have k2:=hi.fits.2.1 q.1 (aI.2 ⟨q,nc,rfl⟩);have e3:=h.inj p.1 k1.1 q.1 k2.1 k1.2.2 k2.2.2 (e1.trans e2.symm);have e4:=hi.fits.2.2.1 p.1 p.2 q.2 hp1 vH;rw [e4]
 ·simp only [rnL,aD] at hp1;obtain ⟨p,hp1,rfl⟩:=hp1;exact Blk.ids_rn (λk hk=>h.dom1 hk) (hi.fits.2.2.2 p hp1)
 ·obtain ⟨s1,s2,s3⟩:=h.sat cK hG hi.closed hZ gu ba;have eE:=hi.run (λk=>r (ρ k)) W fM s1 s2 s3
  have ha:(args.map (ren ρ)).map (ren r)=args.map (ren λk=>r (ρ k)):=by
   exact my
  rw [ha];refine eE.mono λe W' ⟨he,ht⟩=>⟨?_,ht.os,ht.tape,ht.output,ht.size,λk hk Lb=>ht.same k hk λp hp1=>?_,λp hp1=>?_,zS,zS⟩
  ·rw [he,jf]
  ·exact F3
  ·simp only [dY,rnL,aD] at hp1;obtain ⟨p,hp1,rfl⟩:=hp1;have h1:=ht.has p oA;exact ⟨by rw [Blk.rn_obj];exact h1.1,Blk.ids_rn (D:=cJ (dom (rst hp rs)) []) (λk hk=>by rw [sP] at hk |-;exact h.dom1 hk) h1.2⟩
theorem Ret.up {G':Hp} {f:FuncId} {args:bV} {v:Value} (h:Ret P G f args v) (hg:∀ W,GOK G' W->GOK G W):Ret P G' f args v:=⟨h.1,h.2.1,h.2.2.1,λW hW=>h.2.2.2 W (hg W hW)⟩
theorem yP.up {G':Hp} {f:FuncId} {args:bV} {o:Out} (h:yP P G f args o) (hg:∀ W,GOK G' W->GOK G W):yP P G' f args o:=⟨h.1,h.2.1,h.2.2.1,λW hW=>h.2.2.2 W (hg W hW)⟩
end
theorem Fl {p:Prop} (h:p:=by
 refine ⟨qV (abI ns) f1,λk hk=>?_,λk b c h1 h2=>?_,λp hp1=>?_⟩
 ·obtain ⟨q,hq,rfl⟩:=H3 hk;exact TS v ns hR q hq
 ·simp only [rnL,aD,dM] at h1 h2;obtain ⟨p,hp1,e1,rfl⟩:=h1;obtain ⟨q,nc,e2,rfl⟩:=h2;have e3:=hnj v ns hR p.1 (aI.2 ⟨p,hp1,rfl⟩) q.1 (aI.2 ⟨q,nc,rfl⟩) (e1.trans e2.symm);rw [f3 p.1 p.2 q.2 hp1 vH]
 ·simp only [rnL,aD] at hp1;obtain ⟨p,hp1,rfl⟩:=hp1;exact Blk.ids_rn (abI ns) (f4 p hp1)):p:=h
theorem Fc {p:Prop} (h:p:=by
 show (match (ak ns).find? (λl=>ρ l==ρ k) with|some k=>r1 k|none=>r (ρ k))=r1 k
 cases hf:(ak ns).find? (λl=>ρ l==ρ k) with
 | none=>have:=List.find?_eq_none.1 hf k hk;simp at this
 | some l =>
  have h1:=u6 hf;have h2:=uV hf;simp only [beq_iff_eq] at h1;rw [hnj v ns hR l h2 k hk h1]):p:=h
theorem FU {p:Prop} (h:p:=by
 simp only [bw,rnL,aD] at hp1;obtain ⟨p,hp1,rfl⟩:=hp1;have hh:=ht.has p oA;refine ⟨?_,Blk.ids_rn (abI ns) hh.2⟩;rw [Blk.rn_obj,Blk.obj_congr e3 hh.2];show W'.heap[r2 (ρ p.1)]? = _;rw [e1 _ (aI.2 ⟨p,hp1,rfl⟩)];exact hh.1):p:=h
theorem Ek {p:Prop} (h:p:=by
 simp only [rnL,aD] at hp1;obtain ⟨p,hp1,rfl⟩:=hp1;show W.heap.size<=r2 (ρ p.1);rw [e1 _ (aI.2 ⟨p,hp1,rfl⟩)];exact ht.fresh p hp1):p:=h
theorem FX {p:Prop} (h:p:=by
 simp only [rnL,aD] at hp1 nc;obtain ⟨p,hp1,rfl⟩:=hp1;obtain ⟨q,nc,rfl⟩:=nc;have k1:=aI.2 ⟨p,hp1,rfl⟩;have k2:=aI.2 ⟨q,nc,rfl⟩;have al3:r2 (ρ p.1)=r2 (ρ q.1):=VB;rw [e1 _ k1,e1 _ k2] at al3;have:=ht.apart p hp1 q nc al3;show ρ p.1=ρ q.1;rw [this]):p:=h
theorem DI {p:Prop} (h:p:=by
 unfold dom at hk |-
 cases hb:rst hp rs k with
 | none=>exact absurd hb hk
 | some b=>rw [iO hb];simp):p:=h
theorem FR {p:Prop} (h:p:=by
 rw [fw];exact bK λx hx=>(ev hRo (x:=x) rQ (ha x cG) ba (λ_ _ h=>h)).1):p:=h
abbrev u6 := @List.find?_some
abbrev uV := @List.mem_of_find?_eq_some
abbrev AI := Value -> List (Nat × Blk) -> Prop
structure FunS (P:Program) (G:Hp) (f:FuncId) (args:bV) (hp:Hp) (rs:List Nat) (R:AI):Prop where
 enter:∀ a w,(callFunc f a).run P w=.ok (.enter f a) w
 ids:∀ x∈args,aN (dom (rst hp rs)) x
 closed:∀ k b,rst hp rs k=some b->b.ids (dom (rst hp rs))
 fits:∀ v ns,R v ns->aN (cJ (dom (rst hp rs)) ns) v/\(∀ k∈ak ns,100<=k/\¬dom (rst hp rs) k)/\(∀ k b c,(k,b)∈ns->(k,c)∈ns->b=c)/\∀ p∈ns,p.2.ids (cJ (dom (rst hp rs)) ns)
 run:∀ r W,GOK G W->Sat r (dom (rst hp rs)) (rst hp rs) W->Inj r (dom (rst hp rs))->(∀ k,k<100->dom (rst hp rs) k->r k=k) ->
  jD P f (args.map (ren r)) W λe W'=>∃ v ns r',R v ns/\(∀ k,dom (rst hp rs) k->r' k=r k)/\e=.returned (ren r' v)/\Turn r' (cJ (dom (rst hp rs)) ns) W W' [] ns
section
variable {P:Program} {G:Hp}
theorem FunS.under {f:FuncId} {args:bV} {hp db:Hp} {rs:List Nat} {R:AI} (h:FunS P G f args db rs R) (e:∀ k,(k<100\/k∈rs)->db k=hp k):FunS P G f args hp rs R:=by
 have er:rst db rs=rst hp rs:=pz e;exact ⟨h.enter,vO,wv,by rw [<-er];exact h.fits,wa⟩
def RR (ρ:cI) (R:AI) (v':Value) (ns':bS):Prop:=∃ v ns,R v ns/\v'=ren ρ v/\ns'=rnL ρ ns
theorem Ab {ρ:cI} {ns:bS} {k:Nat} (h:k∈ak ns):ρ k∈ak (rnL ρ ns):=by
 obtain ⟨p,hp,rfl⟩:=aI.1 h;exact aI.2 ⟨(ρ p.1,p.2.rn ρ),aD.2 ⟨p,hp,rfl⟩,rfl⟩
theorem FunS.rn {f:FuncId} {args:bV} {hp db:Hp} {rs:List Nat} {R:AI} (ρ:cI) (cK:ct G) (hG:∀ k,k<100->hp k=G k) (h:Rn ρ hp db rs) (hi:FunS P G f args hp rs R)
  (TS:∀ v ns,R v ns->∀ k∈ak ns,100<=ρ k/\¬dom (rst db (rs.map ρ)) (ρ k)) (hnj:∀ v ns,R v ns->∀ k∈ak ns,∀ l∈ak ns,ρ k=ρ l->k=l) :
  FunS P G f (args.map (ren ρ)) db (rs.map ρ) (RR ρ R):=by
 have abI:∀ ns,∀ k,cJ (dom (rst hp rs)) ns k->cJ (dom (rst db (rs.map ρ))) (rnL ρ ns) (ρ k):=λns k hk=>hk.elim (λh1=>.inl (h.dom1 h1)) (λh1=>.inr (Ab h1));refine ⟨hi.enter,λx hx=>?_,λk b hb=>?_,λv' ns' Xq=>?_,λr W fM hZ gu ba=>?_⟩
 ·exact EW
 ·exact sd
 ·obtain ⟨v,ns,hR,rfl,rfl⟩:=Xq;obtain ⟨f1,f2,f3,f4⟩:=hi.fits v ns hR;exact Fl
 ·obtain ⟨s1,s2,s3⟩:=h.sat cK hG hi.closed hZ gu ba;have eE:=hi.run (λk=>r (ρ k)) W fM s1 s2 s3
  have ha:(args.map (ren ρ)).map (ren r)=args.map (ren λk=>r (ρ k)):=by
   exact my
  rw [ha];refine eE.mono λe W' ⟨v,ns,r1,hR,RS,he,ht⟩=>?_;obtain ⟨f1,f2,f3,f4⟩:=hi.fits v ns hR;let r2:Nat->Nat:=λk'=>match (ak ns).find? (λk=>ρ k==k') with|some k=>r1 k|none=>r k'
  have e1:∀ k∈ak ns,r2 (ρ k)=r1 k:=λk hk=>by
   exact Fc
  have e2:∀ k,dom (rst db (rs.map ρ)) k->r2 k=r k:=λk hk=>by
   show (match (ak ns).find? (λl=>ρ l==k) with|some k=>r1 k|none=>r k)=r k
   cases hf:(ak ns).find? (λl=>ρ l==k) with
   | none=>rfl
   | some l =>
    have h1:=u6 hf;have h2:=uV hf;simp only [beq_iff_eq] at h1;exact absurd hk (h1▸(TS v ns hR l h2).2)
  have e3:∀ k,cJ (dom (rst hp rs)) ns k->r2 (ρ k)=r1 k:=λk hk=>by
   by_cases hm:k∈ak ns
   ·exact e1 k hm
   ·have hd:=hk.resolve_right hm;rw [e2 _ (h.dom1 hd),RS k hd]
  refine ⟨ren ρ v,rnL ρ ns,r2,⟨v,ns,hR,rfl,rfl⟩,e2,?_,ht.os,ht.tape,ht.output,ht.size,λk hk _=>ht.same k hk zS,λp hp1=>?_,λp hp1=>?_,λp hp1 q nc VB=>?_⟩
  ·rw [he,jf,jg e3 f1]
  ·exact FU
  ·exact Ek
  ·exact FX
theorem Sc {f:FuncId} {fn:Func} {c:Code} {args:bV} {hp:Hp} {rs:List Nat} {R:AI} {B:Nat} (cK:ct G) (hG:∀ k,k<100->hp k=G k) (hf:P.funcs[f]? = some fn) (hb:fn.body=some c) (eP:∀ a w,(callFunc f a).run P w=.ok (.enter f a) w)
  (ha:∀ x∈args,aN (dom (rst hp rs)) x) (mM:∀ k b,rst hp rs k=some b->b.ids (dom (rst hp rs)))
  (fp:∀ v ns,R v ns->aN (cJ (dom (rst hp rs)) ns) v/\(∀ k∈ak ns,100<=k/\¬dom (rst hp rs) k)/\(∀ k b c,(k,b)∈ns->(k,c)∈ns->b=c)/\∀ p∈ns,p.2.ids (cJ (dom (rst hp rs)) ns))
  (hn:args.size<=fn.ntmps) (hB:100<=B) (dx:∀ x,B<=x->rst hp rs x=none)
  (h:∀ C:Ctx,C.G=G->C.hp0=rst hp rs->C.Y=none->GW P C fn.ntmps [] none c ⟨λt=>args.getD t undef,rst hp rs,B,0⟩ λe s=>(e=.normal\/e=.ret)/\(∀ k,dom (rst hp rs) k->s.hp k=rst hp rs k) /\
   ∃ v ns ρ,R v ns/\(∀ k,dom (rst hp rs) k->ρ k=k)/\(∀ p∈ns,¬dom (rst hp rs) (ρ p.1)/\100<=ρ p.1)/\(∀ p∈ns,∀ q∈ns,ρ p.1=ρ q.1->p.1=q.1)/\qa P fn.results.toList s.ts s.hp=some (ren ρ v)/\∀ p∈ns,s.hp (ρ p.1)=some (p.2.rn ρ)):FunS P G f args hp rs R:=by
 refine ⟨eP,ha,mM,fp,λr W fM hZ aes ba=>callsIn_of_wp_marks hf hb ⟨fn,hf⟩ ?_⟩
 have VE:∀ k,dom (rst hp rs) k->r k<W.heap.size:=λk hk=>by
  exact se
 let im:Nat->Prop:=λj=>∃ i,dom (rst hp rs) i/\r i=j;let C:Ctx:=⟨iI W im,rst hp rs,r,G,none⟩
 have hi:GI P C fn.ntmps [] r ⟨λt=>args.getD t undef,rst hp rs,B,0⟩ { tmps:=args.map (ren r)++Array.replicate (fn.ntmps - (args.map (ren r)).size) undef,defers:=[] } W:=by
  exact FJ
 refine wpIn_mono (h C rfl rfl rfl r _ W hi) ?_;rintro e a' W' ⟨s',r',⟨he,yY,v,ns,ρ,Jg,hρ0,hρ,gu,hr,hns⟩,cv⟩;obtain ⟨S,ms,⟨hS,os,tape,output,size,mH⟩,MP,HM,⟨pZ,BS⟩,sv⟩:=cv.ri.ext;have ig:∀ i,dom (rst hp rs) i->dom s'.hp i/\r' i=r i:=cv.ri.keep;obtain ⟨_,vm,_,Ji⟩:=fp v ns Jg
 have Jp:∀ gF:World,(∀ k,k∉ms->gF.heap[k]? = W'.heap[k]?)->∀ i b,s'.hp i=some b->gF.heap[r' i]? = some (b.obj r'):=λgF hW i b hb=>by
  exact w6
 have cm:∀ gF:World,gF.heap.size=W'.heap.size->gF.os=W'.os->gF.tape=W'.tape->gF.output=W'.output->(∀ k,k∉ms->gF.heap[k]? = W'.heap[k]?) ->
   LeavesIn (Fw P none) 0 P fn a'.tmps (λe W'=>∃ v ns r',R v ns/\(∀ k,dom (rst hp rs) k->r' k=r k)/\e=.returned (ren r' v)/\Turn r' (cJ (dom (rst hp rs)) ns) W W' [] ns) [] .returning gF:=λgF e1 e2 e3 e4 e5=>by
  have qU:Sat r' (dom s'.hp) s'.hp gF:=λk b hk=>⟨Jp gF e5 k b hk,(cv.ri.sat k b hk).2⟩
  have eE:=jP (fn:=fn) cv.ri.rel qU hr;rw [jf] at eE;refine ⟨_,eE,v,ns,λk=>r' (ρ k),Jg,λk hk=>by show r' (ρ k)=r k;rw [hρ0 k hk];exact (ig k hk).2,rfl,?_⟩;refine ⟨e2.trans os,e3.trans tape,e4.trans output,oK,λk hk _=>?_,λp hp1=>?_,λp hp1=>?_,λp hp1 q nc VB=>?_⟩
  ·exact Dr
  ·have hp1:p∈ns:=by simpa using hp1
   refine ⟨?_,Ji p hp1⟩;have:=Jp gF e5 _ _ (hns p hp1);rw [Blk.rn_obj] at this;exact this
  ·exact Es
  ·exact Dj
 exact mq
end
section
variable {P:Program} {C:Ctx} {n:Nat} {d:List Deferred} {ro:Option Nat} {s:GS} {K:kV}
theorem zn {r:cI} {ts:eM} {hp:Hp} {yc:Nat} {a:Act} {W:World} {mn:Nat} {o:Oper} {c:Call} {f:Operand} {g:FuncId} {cap:bV} {rs:List Nat} {R:AI} {next:Act->World->Prop} {Q:Exit->Act->World->Prop}
  (cK:ct C.G) (h:RI C n d r ts hp yc a W) (hd:∀ dd,o.dst=some dd->dd<n)
  (ho:o.op=.call c) (hc:c.callee=.value f) (hf:okT ts f) (AF:gev ts f=.func (.func g) #[] cap) (JV:cap.all da=true) (ha:∀ x∈c.args.toList,okX ts hp x) (hr:FunS P C.G g (c.args.map (gev ts)++cap) hp rs R)
  (L5:∀ v ns,R v ns->∀ k∈ak ns,hp k=none)
  (hn:∀ v ns,R v ns->∀ r' a' W',RI C n d r' (dk ts o.dst v) (bW hp ns) yc a' W'->next a' W'):o.wpIn (Fw P ro) mn P a W next Q:=by
 have hR:=h.rel;have hS:=h.sat;have ba:=h.low
 have hD:∀ k,dom (rst hp rs) k->dom hp k:=λk hk=>by
  exact DI
 have hRo:zx o r (dom hp) ts a:=λt _=>hR t;have h1:=ev hRo (x:=f) ov (yi (hp:=hp) hf) ba (λ_ _ h=>h);rw [AF] at h1;have h3:a.eval f=.func (.func g) #[] (cap.map (aA r)):=oD
 have kv:c.args.map a.eval=(c.args.map (gev ts)).map (ren r):=by
  exact FR
 have eE:(execOp a.eval o).run P W=.ok (.enter g ((c.args.map (gev ts)).map (ren r)++cap.map (aA r))) W:=by
  exact xE
 have hS':Sat r (dom (rst hp rs)) (rst hp rs) W:=λk b hk=>⟨(hS k b (iO hk)).1,hr.closed k b hk⟩
 have HM:Sat r (dom hp) (rst hp rs) W:=λk b hk=>hS k b (iO hk);have eP:=hr.run r W (K3 cK (λk hk=>h.glob k hk) HM ba hD) hS' (λk l hk hl=>h.inj k l (hD k hk) (hD l hl)) (λk hk hd=>ba k hk (hD k hd));have dS:∀ x∈cap,ren r x=aA r x:=λx hx=>hU (cV.1 JV x hx)
 have e2:(c.args.map (gev ts)).map (ren r)++cap.map (aA r)=(c.args.map (gev ts)++cap).map (ren r):=by
  exact xN
 refine jI (R:=λu W'=>next (a.put o.dst u) W') (Rp:=λ_ _=>False) iR ?_ (λu W' h=>h) (λpv W' h=>h.elim);unfold pW;rw [eE];dsimp only;rw [e2];refine eP.mono λe gF he=>?_;obtain ⟨v,ns,r1,Jg,RS,rfl,ht⟩:=he;obtain ⟨f1,f2,f3,f4⟩:=hr.fits v ns Jg;have dx:=L5 v ns Jg;let r2:Nat->Nat:=λk=>if k∈ak ns then r1 k else r k
 have e0:∀ k,k∈ak ns->r2 k=r1 k:=λk hk=>by simp [r2,hk]
 have e1:∀ k,cJ (dom (rst hp rs)) ns k->r2 k=r1 k:=λk hk=>by
  by_cases hm:k∈ak ns
  ·exact e0 k hm
  ·simp only [r2,ab hm];exact (RS k (hk.resolve_right hm)).symm
 have aew:∀ k,cJ (dom (rst hp rs)) ns k->cJ (dom hp) ns k:=λk hk=>hk.imp (hD k) id;have e3:∀ k,dom hp k->r2 k=r k:=λk hk=>by simp only [r2,ab (λh=>hk (dx k h))]
 have hv:ren r1 v=ren r2 v:=(jg e1 f1).symm;show next (a.put o.dst (ren r1 v)) gF
 rw [hv];refine hn v ns Jg r2 _ _ ?_
 have:=h.after (dst:=o.dst) hd (e:=⟨v,[],[],ns,none,false⟩) e3 (il aew f1) ⟨ht.os,ht.tape,ht.output,ht.size,λk hk _=>ht.same k hk zS,λp hp1=>?_,λp hp1=>by rw [e0 _ (aI.2 ⟨p,hp1,rfl⟩)];exact ht.fresh p hp1,
  λp hp1 q nc h=>ht.apart p hp1 q nc (by rw [<-e0 _ (aI.2 ⟨p,hp1,rfl⟩),<-e0 _ (aI.2 ⟨q,nc,rfl⟩)];exact h)⟩ ah (λk hk=>⟨dx k hk,(f2 k hk).1⟩)
 ·exact cZ
 ·have hp1:p∈ns:=by simpa using hp1
  have hh:=ht.has p oA;rw [e0 _ (aI.2 ⟨p,hp1,rfl⟩),Blk.obj_congr e1 hh.2];exact ⟨hh.1,Blk.ids_mono aew hh.2⟩
end
theorem rH {p:Prop} (h:p:=by rw [kv];exact hr.under λq hq=>hq.elim (h2 q) (h1 q)):p:=h
theorem EO {p:Prop} (h:p:=by
 refine nH (Q:=⟨_,λ_ _=>False⟩) (l.take j) _ k _ _ _ _ _ _ (λi hi=>?_) (λi hi=>?_) hh
 ·rw [BI aE];simp only [uZ,ek,nS,iz];rw [(zO:k - 1 - (k - 1 - i)=i),fT,ai hi];cases l0[i]?<;>rfl
 ·have cv:i<j:=by simp at hi;omega
  rw [fT,ai cv,hl,j6];simp):p:=h
theorem xF {p:Prop} (h:p:=by
 rw [aj _ _ (λe=>zO)];exact hf x zO):p:=h
theorem FK {p:Prop} (h:p:=by
 rw [dw (λhm=>by have:=m9 v ns Jg x hm;omega)];exact L5 x zO):p:=h
abbrev BI := @List.getElem?_reverse
abbrev uZ := @List.length_map
abbrev nS := @List.getElem?_map
abbrev iz := @List.getElem?_toArray
abbrev j6 := @List.getElem?_drop
section
variable {P:Program} {C:Ctx} {n:Nat} {d:List Deferred} {ro:Option Nat} {s:GS} {K:kV}
def GL (P:Program) (C:Ctx) (n:Nat) (d:List Deferred) (ro:Option Nat) (ops:Array Oper) (base k:Nat) (l:og) (ts:eM) (hp:Hp) (yc:Nat) (K:kV):Prop :=
 ∀ r a W,RI C n d r ts hp yc a W->(∀ x,base+8*k<=x->hp x=none)->100<=base->ct C.G->(∀ y,C.Y=some y->qc P C y)->wpListIn (Fw P ro) 0 P ops (λe a' W'=>∃ s' r',K e s'/\GI P C n d r' s' a' W') l a W
theorem xW {id:Nat} {l:og} (h:GL P C n d ro l.toArray s.B 0 l s.ts s.hp s.yc K):GW P C n d ro (.region id l.toArray false) s K:=λr a W hi =>
 wpIn_region_lit (h r a W hi.ri wI hi.low hi.flat hi.rounds)
theorem bH {ops:Array Oper} {base k:Nat} {ts:eM} {hp:Hp} {yc:Nat} (h:K .normal ⟨ts,hp,base+8*k,yc⟩):GL P C n d ro ops base k [] ts hp yc K:=λr a W hi hf hb hG hR =>
 wpListIn_nil ⟨⟨ts,hp,_,yc⟩,r,h,hi,hf,by show 100<=base+8*k;omega,hG,hR⟩
theorem aau {l0 l:og} {base k:Nat} {ts:eM} {hp:Hp} {yc:Nat} (j:Nat) (pn:List FuncId) (hl:l=l0.drop k) (hk:k<=l0.length) (jL:(sO n (l.take j)&&GJ P (l.take j))=true)
  (h:∀ q:(Nat->Value)->Hp->Tr->Nat->Prop,(∀ ts hp tr yc,GL P C n d ro l0.toArray base (k+(l.take j).length) (l.drop j) ts hp yc K->q ts hp tr yc) ->
   pd P C.G ⟨C.Y,pn,false⟩ base ⟨q,λ_ _=>False⟩ ((l0.take k).map (·.dst)).reverse k (l.take j) ts hp [] yc true false):GL P C n d ro l0.toArray base k l ts hp yc K:=by
 intro r a W hi hf hb hG hR;simp only [bO] at jL;have e:l=l.take j++l.drop j:=(List.take_append_drop j l).symm;have ek:(l0.take k).length=k:=aE;have hh:=h (λts hp _ yc=>GL P C n d ro l0.toArray base (k+(l.take j).length) (l.drop j) ts hp yc K) (λ_ _ _ _ a=>a)
 have hx:sX P C.G ⟨C.Y,pn,false⟩ l0.toArray base (λts hp _ yc=>GL P C n d ro l0.toArray base (k+(l.take j).length) (l.drop j) ts hp yc K) (λ_ _=>False) k (l.take j) ts hp [] yc true false:=by
  exact EO
 rw [e]
 refine tT (l.drop j) (ops:=l0.toArray) (base:=base) (pn:=pn) (Q:=λe a' W'=>∃ s' r',K e s'/\GI P C n d r' s' a' W') (Kn:=λts hp yc=>GL P C n d ro l0.toArray base (k+(l.take j).length) (l.drop j) ts hp yc K) (Kp:=λ_=>False) (hp0:=hp) (iP:=ts) (l0:=l.take j) hG hR hb (l.take j) k ts hp [] yc true false r a W
  (λo ho=>⟨⟨pG jL.1 ho,s9 jL.2 o ho⟩,ho⟩) (λ_ _=>rfl) hi hf zS (λoW db xS r' a' W' g8 cv Vr _=>g8 r' a' W' cv Vr hb hG hR) (λ_ _ _ _ _ _ _ h=>h.elim) hx
theorem afx {ops:Array Oper} {o:Oper} {post:og} {base k:Nat} {ts:eM} {hp:Hp} {yc:Nat} (hg:o.guard=none) (hd:∀ dd,o.dst=some dd->dd<n)
  (h:afC P o ts hp (base+8*k) λoW db=>GL P C n d ro ops base (k+1) post oW db yc K):GL P C n d ro ops base k (o::post) ts hp yc K:=by
 intro r a W hi hf hb hG hR;obtain ⟨tx,ty,t,e,i,z,k',j,ao,sl,cap,m,m',b,b2,nw,ho,ht,hii,hz,hx,nz,Jh,hbT,Sg,hy,mU,JZ,hnl,Lb,HO,h1,y9,hc,M5,BU,pV,XG,alz⟩:=h;refine wpListIn_plain hg λK' JS=>?_;refine Om hi hd ho ht hii hz hx nz Jh hbT Sg hy mU JZ hnl Lb HO h1 y9 hc M5 BU pV (nk:=base+8*k) ⟨hf _ (aG _),zO⟩ (λhr r'' a'' gF agB=>JS _ _ (XG hr r'' a'' gF agB (λx tn=>?_) hb hG hR)) (λhr cW yz r'' a'' gF agB=>JS _ _ (alz hr cW yz r'' a'' gF agB (λx tn=>?_) hb hG hR))
 ·rw [aj _ _ (λe=>?_)]
  ·exact hf x zO
  ·subst e;rw [hf x zO] at Jh;cases Jh
 ·exact xF
theorem Mb {ops:Array Oper} {o:Oper} {post:og} {base k:Nat} {ts:eM} {hp db:Hp} {yc:Nat} {c:Call} {f:Operand} {g:FuncId} {cap:bV} {rs:List Nat} {R:AI} (hg:o.guard=none) (hd:∀ dd,o.dst=some dd->dd<n)
  (ho:o.op=.call c) (hc:c.callee=.value f) (hf:okT ts f) (AF:gev ts f=.func (.func g) #[] cap) (JV:cap.all da=true) (ha:∀ x∈c.args.toList,okX ts hp x) {args:bV} (kv:c.args.map (gev ts)++cap=args) (hr:FunS P C.G g args db rs R)
  (h1:∀ q∈rs,db q=hp q) (h2:∀ q,q<100->db q=hp q) (m9:∀ v ns,R v ns->∀ q∈ak ns,base+8*k<=q/\q<base+8*k+8)
  (h:∀ v ns,R v ns->GL P C n d ro ops base (k+1) post (dk ts o.dst v) (bW hp ns) yc K):GL P C n d ro ops base k (o::post) ts hp yc K:=by
 intro r a W hi L5 hb hG hR;refine wpListIn_plain hg λK' JS=>?_;refine zn hG hi hd ho hc hf AF JV ha rH (λv ns Jg q hq=>L5 q (m9 v ns Jg q hq).1) (λv ns Jg r' a' W' cv=>JS _ _ (h v ns Jg r' a' W' cv (λx hx=>?_) hb hG hR));exact FK
end
section
variable {P:Program} {C:Ctx} {n:Nat} {d:List Deferred} {ro:Option Nat} {s:GS} {K:kV}
theorem Z3 {l0 l:og} {base k:Nat} {ts:eM} {hp:Hp} {yc:Nat} (j:Nat)
  (h:∀ q:(Nat->Value)->Hp->Tr->Nat->Prop,(∀ ts hp tr yc,GL P C n d ro l0.toArray base (k+(l.take j).length) (l.drop j) ts hp yc K->q ts hp tr yc) ->
   pd P C.G ⟨C.Y,[],false⟩ base ⟨q,λ_ _=>False⟩ ((l0.take k).map (·.dst)).reverse k (l.take j) ts hp [] yc true false) (hl:l=l0.drop k:=by rfl) (hk:k<=l0.length:=by simp) (jL:(sO n (l.take j)&&GJ P (l.take j))=true:=by kernel_rfl):GL P C n d ro l0.toArray base k l ts hp yc K:=aau j [] hl hk jL h
end
theorem n7 {P Q F:Prop} (f:F) (q:Q) (h:F->Q->P:=by intro f q;refine Z3 1 ?_;intro Q hQ;simp [hC,hY,dk,bW,f];apply hQ;simp only [wT,wM,Nat.reduceAdd];exact q):P:=h f q
theorem zP {P Q F:Prop} (f:F) (q:Q) (h:F->Q->P:=by intro f q;refine Z3 2 ?_;intro Q hQ;simp [hC,hY,dk,bW,f];apply hQ;simp only [wT,wM,Nat.reduceAdd];exact q):P:=h f q
theorem GU {P Q F:Prop} (f:F) (q:Q) (h:F->Q->P:=by intro f q;refine Z3 3 ?_;intro Q hQ;simp [hC,hY,dk,bW,f];apply hQ;simp only [wT,wM,Nat.reduceAdd];exact q):P:=h f q
theorem gl4 {P Q F:Prop} (f:F) (q:Q) (h:F->Q->P:=by intro f q;refine Z3 4 ?_;intro Q hQ;simp [hC,hY,dk,bW,f];apply hQ;simp only [wT,wM,Nat.reduceAdd];exact q):P:=h f q
theorem Z2 {P Q F:Prop} (f:F) (q:Q) (h:F->Q->P:=by intro f q;refine Z3 5 ?_;intro Q hQ;simp [hC,hY,dk,bW,f];apply hQ;simp only [wT,wM,Nat.reduceAdd];exact q):P:=h f q
theorem PI {P Q F:Prop} (f:F) (q:Q) (h:F->Q->P:=by intro f q;refine Z3 6 ?_;intro Q hQ;simp [hC,hY,dk,bW,f];apply hQ;simp only [wT,wM,Nat.reduceAdd];exact q):P:=h f q
theorem gj {P Q:Prop} (q:Q) (h:Q->P:=by intro q;refine xW ?_;simp only [Array.toList];exact q):P:=h q
structure FunY (P:Program) (G:Hp) (f:FuncId) (args:bV) (hp:Hp) (rs:List Nat) (y:YG) (c0 c1:Nat) (v:Value):Prop where
 enter:∀ a w,(callFunc f a).run P w=.ok (.enter f a) w
 ids:∀ x∈args,aN (dom (rst hp rs)) x
 closed:∀ k b,rst hp rs k=some b->b.ids (dom (rst hp rs))
 fv:bz v=true
 run:∀ (E:Ext) r S W,GOK G W->Sat r (dom (rst hp rs)) (rst hp rs) W->Inj r (dom (rst hp rs))->(∀ k,k<100->dom (rst hp rs) k->r k=k)->pE P G E y->E.X c0 S W->(∀ k,S k->k<W.heap.size)->(∀ i,dom (rst hp rs) i->100<=i->¬S (r i)) ->
  jD P f (args.map (ren r)) W λe W'=>e=.returned v/\GOK G W'/\W.heap.size<=W'.heap.size/\(∀ k,k<W.heap.size->¬S k->W'.heap[k]? = W.heap[k]?)/\∃ S',E.X c1 S' W'/\(∀ k,S' k->k<W'.heap.size)/\∀ k,S' k->k<W.heap.size->S k
section
variable {P:Program} {G:Hp}
theorem FunY.under {f:FuncId} {args:bV} {hp db:Hp} {rs:List Nat} {y:YG} {c0 c1:Nat} {v:Value} (h:FunY P G f args db rs y c0 c1 v) (e:∀ k,(k<100\/k∈rs)->db k=hp k):FunY P G f args hp rs y c0 c1 v:=by
 have er:rst db rs=rst hp rs:=pz e;exact ⟨h.enter,vO,wv,h.fv,wa⟩
theorem FunY.rn {f:FuncId} {args:bV} {hp db:Hp} {rs:List Nat} {y:YG} {c0 c1:Nat} {v:Value} (ρ:cI) (cK:ct G) (hG:∀ k,k<100->hp k=G k) (h:Rn ρ hp db rs) (g5:∀ k∈rs,100<=k->100<=ρ k) (hi:FunY P G f args hp rs y c0 c1 v):FunY P G f (args.map (ren ρ)) db (rs.map ρ) y c0 c1 v:=by
 refine ⟨hi.enter,λx hx=>?_,λk b hb=>?_,hi.fv,λE r S W fM hZ gu ba hR hX hS kW=>?_⟩
 ·obtain ⟨z,hz,rfl⟩:=dA.1 hx;exact qV (λk hk=>h.dom1 hk) (hi.ids z hz)
 ·exact sd
 ·obtain ⟨s1,s2,s3⟩:=h.sat cK hG hi.closed hZ gu ba
  have eE:=hi.run E (λk=>r (ρ k)) S W fM s1 s2 s3 hR hX hS λi hd h1=>by
   have hm:i∈rs:=by
    unfold dom rst at hd;split at hd
    ·rename_i hc;rcases hc with hc|hc
     ·omega
     ·exact hc
    ·exact absurd rfl hd
   exact kW (ρ i) (h.dom1 hd) (g5 i hm h1)
  have ha:(args.map (ren ρ)).map (ren r)=args.map (ren λk=>r (ρ k)):=by
   exact my
  rw [ha];exact eE
theorem abv {f:FuncId} {fn:Func} {c:Code} {args:bV} {hp:Hp} {rs:List Nat} {y:YG} {c0 c1:Nat} {v:Value} {B:Nat} (cK:ct G) (hG:∀ k,k<100->hp k=G k) (hf:P.funcs[f]? = some fn) (hb:fn.body=some c) (eP:∀ a w,(callFunc f a).run P w=.ok (.enter f a) w)
  (ha:∀ x∈args,aN (dom (rst hp rs)) x) (mM:∀ k b,rst hp rs k=some b->b.ids (dom (rst hp rs))) (hv:bz v=true) (m7:y.sh=none) (hn:args.size<=fn.ntmps) (hB:100<=B) (dx:∀ x,B<=x->rst hp rs x=none)
  (h:∀ C:Ctx,C.G=G->C.hp0=rst hp rs->C.Y=some y->GW P C fn.ntmps [] none c ⟨λt=>args.getD t undef,rst hp rs,B,c0⟩ λe s=>(e=.normal\/e=.ret)/\qa P fn.results.toList s.ts s.hp=some v/\(∀ k,dom (rst hp rs) k->s.hp k=rst hp rs k)/\s.yc=c1):FunY P G f args hp rs y c0 c1 v:=by
 refine ⟨eP,ha,mM,hv,λE r S W fM hZ gu ba hR hX hS kW=>callsIn_of_wp_marks hf hb ⟨fn,hf⟩ ?_⟩;let im:Nat->Prop:=λj=>∃ i,dom (rst hp rs) i/\r i=j
 have VE:∀ k,dom (rst hp rs) k->r k<W.heap.size:=λk hk=>by
  exact se
 let T:Nat->Prop:=λk=>k<W.heap.size/\¬S k/\¬im k
 let E':Ext:=⟨λc S1 V=>∃ S0,E.X c S0 V/\(∀ k,S1 k↔S0 k\/T k)/\(∀ k,S0 k->k<W.heap.size->S k)/\W.heap.size<=V.heap.size/\∀ k,T k->V.heap[k]? = W.heap[k]?,
  λc S1 V V' ⟨S0,h1,h2,h3,h4,h5⟩ hs os tape output size=>⟨S0,E.ok _ _ _ _ h1 (λk hk=>hs k ((h2 k).2 (.inl hk))) os tape output size,h2,h3,fS h4 size,λk hk=>(hs k ((h2 k).2 (.inr hk))).trans (h5 k hk)⟩⟩
 let C:Ctx:=⟨E',rst hp rs,r,G,some y⟩
 have Xq:pE P G E' y:=by
  intro c x S1 V hg hx hc ⟨S0,h1,h2,h3,h4,h5⟩ MP agA;obtain ⟨fn',tmps,assign,body,hy,JZ⟩:=hR c x S0 V hg hx hc h1 (λk hk=>MP k ((h2 k).2 (.inl hk))) agA;refine ⟨fn',tmps,assign,body,hy,nV JZ ?_⟩;rintro e V' ⟨a1,a2,a3,a4,a5,S0',b1,b2,b3⟩;refine ⟨a1,a2,a3,λk hk hn1 hn2=>a4 k hk (λhc=>hn1 ((h2 k).2 (.inl hc))) hn2,a5,λk=>S0' k\/T k,⟨S0',b1,λk=>jr,λk hk cA=>h3 k (b3 k hk zO) cA,zO,λk hk=>?_⟩,λk hk=>?_,λk hk cA=>?_⟩
  ·have nz:¬S0 k:=λhc=>hk.2.1 (h3 k hc hk.1);have mN:¬y.at k:=λhc=>by unfold YG.at at hc;rw [m7] at hc;exact hc
   have yZ:k<V.heap.size:=by have:=hk.1;omega
   exact (a4 k yZ nz mN).trans (h5 k hk)
  ·rcases hk with hk|hk
   ·exact b2 k hk
   ·have:=hk.1;omega
  ·rcases hk with hk|hk
   ·exact (h2 k).2 (.inl (b3 k hk cA))
   ·exact (h2 k).2 (.inr hk)
 have hi:GI P C fn.ntmps [] r ⟨λt=>args.getD t undef,rst hp rs,B,c0⟩ { tmps:=args.map (ren r)++Array.replicate (fn.ntmps - (args.map (ren r)).size) undef,defers:=[] } W:=by
  refine ⟨⟨aE,λt=>?_,hZ,gu,⟨λk=>S k\/T k,[],⟨S,hX,λ_=>jr,λ_ h _=>h,aG _,λ_ _=>rfl⟩,λk hk=>?_,λi hi h1 hS=>?_,⟨rfl,jZ⟩,zS⟩,
   λi hi=>⟨hi,rfl⟩,λk hk=>?_,ba⟩,dx,hB,cK,λy' hy=>by cases hy;exact ⟨Xq,by unfold YG.fine;rw [m7];trivial⟩⟩
  ·right
   exact xw
  ·rcases hk with hk|hk
   ·exact hS k hk
   ·exact hk.1
  ·rcases hS with hS|hS
   ·exact kW i hi h1 hS
   ·exact hS.2.2 ⟨i,hi,rfl⟩
  ·exact xf
 refine wpIn_mono (h C rfl rfl rfl r _ W hi) ?_;rintro e a' W' ⟨s',r',⟨he,hr,yY,hyc⟩,cv⟩;obtain ⟨S1,ms,⟨S0,RF,MP,abY,size,hold⟩,aqD,atv,⟨pZ,BS⟩,sv⟩:=cv.ri.ext;have ig:∀ i,dom (rst hp rs) i->dom s'.hp i/\r' i=r i:=cv.ri.keep
 have cm:∀ gF:World,gF.heap.size=W'.heap.size->gF.os=W'.os->gF.tape=W'.tape->gF.output=W'.output->(∀ k,k∉ms->gF.heap[k]? = W'.heap[k]?) ->
   LeavesIn (Fw P none) 0 P fn a'.tmps (λe W'=>e=.returned v/\GOK G W'/\W.heap.size<=W'.heap.size/\(∀ k,k<W.heap.size->¬S k->W'.heap[k]? = W.heap[k]?)/\∃ S',E.X c1 S' W'/\(∀ k,S' k->k<W'.heap.size)/\∀ k,S' k->k<W.heap.size->S k) [] .returning gF:=λgF e1 e2 e3 e4 e5=>by
  have qU:Sat r' (dom s'.hp) s'.hp gF:=λk b hk=>⟨by
   rw [e5 _ (λhm=>cv.ri.ne_mark gD (sv _ hm).1 rfl)];exact (cv.ri.sat k b hk).1,(cv.ri.sat k b hk).2⟩
  have eE:=jP (fn:=fn) cv.ri.rel qU hr;rw [bM hv] at eE;refine ⟨_,eE,rfl,λk b hk=>?_,oK,λk hk IY=>?_,S0,?_,λk hk=>?_,λk hk cA=>abY k hk cA⟩
  ·obtain ⟨cA,BR⟩:=cK k b hk;have hb:s'.hp k=some b:=(cv.ri.glob k cA).trans hk;have h9:=(qU k b hb).1;rw [cv.ri.low k cA fF] at h9;rw [h9];exact xc
  ·by_cases Vs:im k
   ·obtain ⟨i,jU,rfl⟩:=Vs
    cases hb:rst hp rs i with
    | none=>exact absurd hb jU
    | some b =>
     have e:s'.hp i=some b:=by rw [yY i jU];exact hb
     have:=(qU i b e).1;exact Gn
   ·have hT:T k:=⟨hk,IY,Vs⟩
    rw [e5 k (λhm=>(sv k hm).2.1 ((MP k).2 (.inr hT)))];exact hold k hT
  ·rw [<-hyc];exact E.ok _ _ _ _ RF (λk hk=>e5 k λhm=>(sv k hm).2.1 ((MP k).2 (.inl hk))) e2 e3 e4 rW
  ·rw [e1];exact aqD k ((MP k).2 (.inl hk))
 exact mq
end
section
variable {P:Program} {C:Ctx} {n:Nat} {d:List Deferred} {ro:Option Nat} {K:kV}
theorem QP {r:cI} {ts:eM} {hp:Hp} {yc c1:Nat} {a:Act} {W:World} {mn:Nat} {o:Oper} {c:Call} {f:Operand} {g:FuncId} {cap:bV} {rs:List Nat} {y:YG} {v:Value} {next:Act->World->Prop} {Q:Exit->Act->World->Prop}
  (cK:ct C.G) (h:RI C n d r ts hp yc a W) (hRd:qc P C y) (m7:y.sh=none) (hd:∀ dd,o.dst=some dd->dd<n)
  (ho:o.op=.call c) (hc:c.callee=.value f) (hf:okT ts f) (AF:gev ts f=.func (.func g) #[] cap) (JV:cap.all da=true) (ha:∀ x∈c.args.toList,okX ts hp x) (hr:FunY P C.G g (c.args.map (gev ts)++cap) hp rs y yc c1 v)
  (hn:∀ a' W',RI C n d r (dk ts o.dst v) hp c1 a' W'->next a' W'):o.wpIn (Fw P ro) mn P a W next Q:=by
 have hR:=h.rel;have hS:=h.sat;have ba:=h.low
 have hD:∀ k,dom (rst hp rs) k->dom hp k:=λk hk=>by
  exact DI
 have hRo:zx o r (dom hp) ts a:=λt _=>hR t;have h1:=ev hRo (x:=f) ov (yi (hp:=hp) hf) ba (λ_ _ h=>h);rw [AF] at h1;have h3:a.eval f=.func (.func g) #[] (cap.map (aA r)):=oD
 have kv:c.args.map a.eval=(c.args.map (gev ts)).map (ren r):=by
  exact FR
 have eE:(execOp a.eval o).run P W=.ok (.enter g ((c.args.map (gev ts)).map (ren r)++cap.map (aA r))) W:=by
  exact xE
 have hS':Sat r (dom (rst hp rs)) (rst hp rs) W:=λk b hk=>⟨(hS k b (iO hk)).1,hr.closed k b hk⟩
 have HM:Sat r (dom hp) (rst hp rs) W:=λk b hk=>hS k b (iO hk);obtain ⟨S,ms,hX,cf,sx,RG,yb⟩:=h.ext;have eP:=hr.run C.E r S W (K3 cK (λk hk=>h.glob k hk) HM ba hD) hS' (λk l hk hl=>h.inj k l (hD k hk) (hD l hl)) (λk hk hd=>ba k hk (hD k hd)) hRd.1 hX cf (λi hi h1=>sx i (hD i hi) h1);have dS:∀ x∈cap,ren r x=aA r x:=λx hx=>hU (cV.1 JV x hx)
 have e2:(c.args.map (gev ts)).map (ren r)++cap.map (aA r)=(c.args.map (gev ts)++cap).map (ren r):=by
  exact xN
 refine jI (R:=λu W'=>next (a.put o.dst u) W') (Rp:=λ_ _=>False) iR ?_ (λu W' h=>h) (λpv W' h=>h.elim);unfold pW;rw [eE];dsimp only;rw [e2];refine eP.mono λe W' he=>?_;obtain ⟨rfl,JW,yg,mH,S',RF,TN,K7⟩:=he;show next (a.put o.dst v) W'
 have base:RI C n d r ts hp c1 a W' :=
  { h with
   sat:=λk b hk=>by
    have HR:dom hp k:=gD;have:=h.sat k b hk;refine ⟨?_,this.2⟩;by_cases nz:k<100
    ·have e1:r k=k:=h.low k nz HR;have e2:C.G k=some b:=by rw [<-h.glob k nz];exact hk
     rw [e1,JW k b e2];rw [Blk.obj_flat (λx hx=>(cK k b e2).2 x hx)]
    ·exact (mH _ (h.lt HR) (sx k HR zO)).trans this.1
   ext:=⟨S',ms,RF,TN,λi hi h1i hS=>sx i hi h1i (K7 _ hS (h.lt hi)),RG,λD hD=>by
    have cA:=(a9.1 (yb D hD).1).1;exact ⟨(mH D cA (yb D hD).2.1).trans (yb D hD).1,λhS=>(yb D hD).2.1 (K7 D hS cA),(yb D hD).2.2⟩⟩ }
 have:=base.put hd (v:=v) (cb hr.fv);rw [bM hr.fv] at this;exact hn _ _ this
theorem sF {ops:Array Oper} {o:Oper} {post:og} {base k:Nat} {ts:eM} {hp db:Hp} {yc c1:Nat} {c:Call} {f:Operand} {g:FuncId} {cap:bV} {rs:List Nat} {y:YG} {v:Value} (hg:o.guard=none) (hd:∀ dd,o.dst=some dd->dd<n)
  (ho:o.op=.call c) (hc:c.callee=.value f) (hf:okT ts f) (AF:gev ts f=.func (.func g) #[] cap) (JV:cap.all da=true) (ha:∀ x∈c.args.toList,okX ts hp x) {args:bV} (kv:c.args.map (gev ts)++cap=args) (hY:C.Y=some y) (m7:y.sh=none) (hr:FunY P C.G g args db rs y yc c1 v)
  (h1:∀ q∈rs,db q=hp q) (h2:∀ q,q<100->db q=hp q)
  (h:GL P C n d ro ops base (k+1) post (dk ts o.dst v) hp c1 K):GL P C n d ro ops base k (o::post) ts hp yc K:=by
 intro r a W hi L5 hb hG hR;refine wpListIn_plain hg λK' JS=>?_;exact QP hG hi (hR y hY) m7 hd ho hc hf AF JV ha rH λa' W' cv=>JS _ _ (h r a' W' cv (λx hx=>L5 x zO) hb hG hR)
end
section
variable {P:Program} {G:Hp}
variable {C:Ctx} {n:Nat} {d:List Deferred} {s:GS} {K:kV}
theorem WeakR.subd {ρ:cI} {s':GS} (hw:WeakR C ρ s s') (hg:∀ k,k<100->s.hp k=C.G k) (k:Nat) (hk:dom s'.hp k):dom s.hp (ρ k):=by
 unfold dom at hk
 cases hb:s'.hp k with
 | none=>exact absurd hb hk
 | some b =>
  by_cases h1:100<=k
  ·unfold dom;rw [(hw.hp k b hb h1).1];simp
  ·rw [hw.id k zO];unfold dom;rw [hg k zO,<-hw.glob k zO,hb];simp
theorem Own0.rename {So:gA} {ms:List Nat} {yc B2 B xS:Nat} {a:Act} {r ρ:cI} {ts:eM} {hp hq:Hp} {V:World} (h:Own0 C d So ms yc a r ts hp V) (hw:WeakR C ρ ⟨ts,hp,B2,xS⟩ ⟨ts,hq,B,xS⟩):Own0 C d So ms yc a (λk=>r (ρ k)) ts hq V:=by
 have subd:=hw.subd (λk hk=>h.glob k hk)
 have sub:∀ k b,hq k=some b->hp (ρ k)=some (b.rn ρ):=λk b hb=>by
  by_cases hk:100<=k
  ·exact (hw.hp k b hb hk).1
  ·have hg:C.G k=some b:=(hw.glob k zO).symm.trans hb;rw [hw.id k zO,hw.rest k b zO hg,h.glob k zO];exact hg
 refine ⟨λt=>?_,λk b hb=>?_,λk l hk hl e=>hw.inj k l hk hl (h.inj _ _ (subd k hk) (subd l hl) e),h.X,λi hd h1=>?_,h.mks,λi hi=>?_,hw.glob,λk hk hd=>?_⟩
 ·rcases hw.ts t with e|⟨e,df,hi⟩
  ·exact .inl e
  ·have e':=(h.ri t).resolve_left df;refine .inr ⟨?_,hi⟩;have e2:ts t=ren ρ (ts t):=e;rw [e'.1]
   conv=>lhs;rw [e2]
   rw [jf]
 ·have hs:=(h.sat _ _ (sub k b hb)).1;rw [Blk.rn_obj] at hs;exact ⟨hs,hw.ids k b hb⟩
 ·refine h.sep _ (subd i hd) ?_;have tV:dom hq i:=hd;unfold dom at tV
  cases hb:hq i with
  | none=>exact absurd hb tV
  | some b=>exact (hw.hp i b hb h1).2
 ·have hk:=h.keep i hi;by_cases h1:100<=i
  ·exact E1
  ·refine ⟨?_,by rw [hw.id i zO];exact hk.2⟩;show dom hq i;unfold dom;have e1:hq i=C.G i:=hw.glob i zO;rw [e1,<-h.glob i zO];exact hk.1
 ·have tV:=subd k hd;rw [hw.id k hk] at tV |-;exact h.low k hk tV
end
end Go.Gy
