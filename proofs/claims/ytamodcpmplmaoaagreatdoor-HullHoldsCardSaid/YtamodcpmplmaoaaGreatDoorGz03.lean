/-
  Lemmas of this claim, in their order (GyK6, GyK7, GyDA, GyRI, GyRK, GyLA, GyV2, GyVA, GyM, GyX1, GyX2, GyX3, GyX4, GyX5, GyX6, GyL2, GyX7, GyQ1).
  Conditions: those of each theorem.
-/
import Derived.Test.YtamodcpmplmaoaaGreatDoorGz02
import Derived.Laws.Externs
import Derived.Laws.MathBits
set_option linter.unusedSimpArgs false
set_option linter.unusedVariables false
set_option maxRecDepth 20000
set_option maxHeartbeats 4000000
namespace Go.Gy
open Go Go.RowKit
section
variable {P:Program} {C:Ctx} {n:Nat} {d:List Deferred} {ro:Option Nat} {s:GS} {K:Exit->GS->Prop}
def GL (P:Program) (C:Ctx) (n:Nat) (d:List Deferred) (ro:Option Nat) (ops:Array Oper) (base k:Nat) (l:List Oper) (ts:Nat->Value) (hp:Hp) (yc:Nat) (K:Exit->GS->Prop):Prop :=
 ∀ r a W,RI C n d r ts hp yc a W->(∀ x,base+8*k<=x->hp x=none)->100<=base->zbg C.G->(∀ y,C.Y=some y->zgq P C y)->wpListIn (Fw P ro) 0 P ops (λe a' W'=>∃ s' r',K e s'/\GI P C n d r' s' a' W') l a W
theorem zdf {id:Nat} {l:List Oper} (h:GL P C n d ro l.toArray s.B 0 l s.ts s.hp s.yc K):GW P C n d ro (.region id l.toArray false) s K:=λr a W hi =>
 wpIn_region_lit (h r a W hi.ri (by simpa using hi.free) hi.low hi.flat hi.rounds)
theorem zec {ops:Array Oper} {base k:Nat} {ts:Nat->Value} {hp:Hp} {yc:Nat} (h:K .normal ⟨ts,hp,base+8*k,yc⟩):GL P C n d ro ops base k [] ts hp yc K:=λr a W hi hf hb hG hR =>
 wpListIn_nil ⟨⟨ts,hp,_,yc⟩,r,h,hi,hf,by show 100<=base+8*k;omega,hG,hR⟩
theorem z37 {l0 l:List Oper} {base k:Nat} {ts:Nat->Value} {hp:Hp} {yc:Nat} (j:Nat) (pn:List FuncId) (hl:l=l0.drop k) (hk:k<=l0.length) (hdst:(zil n (l.take j)&&zxq P (l.take j))=true)
  (h:∀ q:(Nat->Value)->Hp->Tr->Nat->Prop,(∀ ts hp tr yc,GL P C n d ro l0.toArray base (k+(l.take j).length) (l.drop j) ts hp yc K->q ts hp tr yc) ->
   ziy P C.G ⟨C.Y,pn,false⟩ base ⟨q,λ_ _=>False⟩ ((l0.take k).map (·.dst)).reverse k (l.take j) ts hp [] yc true false):GL P C n d ro l0.toArray base k l ts hp yc K:=by
 intro r a W hi hf hb hG hR
 simp only [Bool.and_eq_true] at hdst
 have e:l=l.take j++l.drop j:=(List.take_append_drop j l).symm
 have ek:(l0.take k).length=k:=by simp;omega
 have hh:=h (λts hp _ yc=>GL P C n d ro l0.toArray base (k+(l.take j).length) (l.drop j) ts hp yc K) (λ_ _ _ _ a=>a)
 have hx:zlu P C.G ⟨C.Y,pn,false⟩ l0.toArray base (λts hp _ yc=>GL P C n d ro l0.toArray base (k+(l.take j).length) (l.drop j) ts hp yc K) (λ_ _=>False) k (l.take j) ts hp [] yc true false:=by
  refine zd0 (Q:=⟨_,λ_ _=>False⟩) (l.take j) _ k _ _ _ _ _ _ (λi hi=>?_) (λi hi=>?_) hh
  ·rw [List.getElem?_reverse (by simp;omega)]
   simp only [List.length_map,ek,List.getElem?_map,List.getElem?_toArray]
   rw [show k - 1 - (k - 1 - i)=i by omega,List.getElem?_take,if_pos hi]
   cases l0[i]?<;>rfl
  ·have hi':i<j:=by simp at hi;omega
   rw [List.getElem?_take,if_pos hi',hl,List.getElem?_drop];simp
 rw [e]
 refine zic (l.drop j) (ops:=l0.toArray) (base:=base) (pn:=pn) (Q:=λe a' W'=>∃ s' r',K e s'/\GI P C n d r' s' a' W') (Kn:=λts hp yc=>GL P C n d ro l0.toArray base (k+(l.take j).length) (l.drop j) ts hp yc K) (Kp:=λ_=>False) (hp0:=hp) (ts0:=ts) (l0:=l.take j) hG hR hb (l.take j) k ts hp [] yc true false r a W
  (λo ho=>⟨⟨zf7 hdst.1 ho,zhp hdst.2 o ho⟩,ho⟩) (λ_ _=>rfl) hi hf (by simp) (λts' hp' yc' r' a' W' hk' hi' hf' _=>hk' r' a' W' hi' hf' hb hG hR) (λ_ _ _ _ _ _ _ h=>h.elim) hx
theorem z9n {ops:Array Oper} {o:Oper} {post:List Oper} {base k:Nat} {ts:Nat->Value} {hp:Hp} {yc:Nat} (hg:o.guard=none) (hd:∀ dd,o.dst=some dd->dd<n)
  (h:jg4 P o ts hp (base+8*k) λts' hp'=>GL P C n d ro ops base (k+1) post ts' hp' yc K):GL P C n d ro ops base k (o::post) ts hp yc K:=by
 intro r a W hi hf hb hG hR
 obtain ⟨tx,ty,t,e,i,z,k',j,off2,sl,cap,m,m',b,b2,nw,ho,ht,hii,hz,hx,hk1,hb',hbT,hbf,hy,hb2,hrd,hnl,hnw,hb2f,h1,hzf,hc,hsl,hs1,hs2,hroom,hgrow⟩:=h
 refine wpListIn_plain hg λK' hK'=>?_
 refine zjq hi hd ho ht hii hz hx hk1 hb' hbT hbf hy hb2 hrd hnl hnw hb2f h1 hzf hc hsl hs1 hs2 (nk:=base+8*k) ⟨hf _ (Nat.le_refl _),by omega⟩ (λhr r'' a'' W'' hi''=>hK' _ _ (hroom hr r'' a'' W'' hi'' (λx hx'=>?_) hb hG hR)) (λhr cap' hc' r'' a'' W'' hi''=>hK' _ _ (hgrow hr cap' hc' r'' a'' W'' hi'' (λx hx'=>?_) hb hG hR))
 ·rw [zaa _ _ (λe=>?_)]
  ·exact hf x (by omega)
  ·subst e;rw [hf x (by omega)] at hb';cases hb'
 ·rw [zaa _ _ (λe=>by omega)]
  exact hf x (by omega)
theorem zyl {ops:Array Oper} {o:Oper} {post:List Oper} {base k:Nat} {ts:Nat->Value} {hp hp':Hp} {yc:Nat} {c:Call} {f:Operand} {g:FuncId} {cap:Array Value} {rs:List Nat} {R:Value->List (Nat×Blk)->Prop} (hg:o.guard=none) (hd:∀ dd,o.dst=some dd->dd<n)
  (ho:o.op=.call c) (hc:c.callee=.value f) (hf:okT ts f) (hgf:gev ts f=.func (.func g) #[] cap) (hcp:cap.all zbj=true) (ha:∀ x∈c.args.toList,okX ts hp x) {args:Array Value} (hargs:c.args.map (gev ts)++cap=args) (hr:FunS P C.G g args hp' rs R)
  (h1:∀ q∈rs,hp' q=hp q) (h2:∀ q,q<100->hp' q=hp q) (hat:∀ v ns,R v ns->∀ q∈zab ns,base+8*k<=q/\q<base+8*k+8)
  (h:∀ v ns,R v ns->GL P C n d ro ops base (k+1) post (zcq ts o.dst v) (zbb hp ns) yc K):GL P C n d ro ops base k (o::post) ts hp yc K:=by
 intro r a W hi hfr hb hG hR
 refine wpListIn_plain hg λK' hK'=>?_
 refine zia hG hi hd ho hc hf hgf hcp ha (by rw [hargs];exact hr.under λq hq=>hq.elim (h2 q) (h1 q)) (λv ns hRv q hq=>hfr q (hat v ns hRv q hq).1) (λv ns hRv r' a' W' hi'=>hK' _ _ (h v ns hRv r' a' W' hi' (λx hx=>?_) hb hG hR))
 rw [za6 (λhm=>by have:=hat v ns hRv x hm;omega)]
 exact hfr x (by omega)
end
section
variable {P:Program} {C:Ctx} {n:Nat} {d:List Deferred} {ro:Option Nat} {s:GS} {K:Exit->GS->Prop}
theorem gwl {l0 l:List Oper} {base k:Nat} {ts:Nat->Value} {hp:Hp} {yc:Nat} (j:Nat)
  (h:∀ q:(Nat->Value)->Hp->Tr->Nat->Prop,(∀ ts hp tr yc,GL P C n d ro l0.toArray base (k+(l.take j).length) (l.drop j) ts hp yc K->q ts hp tr yc) ->
   ziy P C.G ⟨C.Y,[],false⟩ base ⟨q,λ_ _=>False⟩ ((l0.take k).map (·.dst)).reverse k (l.take j) ts hp [] yc true false) (hl:l=l0.drop k:=by rfl) (hk:k<=l0.length:=by simp) (hdst:(zil n (l.take j)&&zxq P (l.take j))=true:=by kernel_rfl):GL P C n d ro l0.toArray base k l ts hp yc K:=z37 j [] hl hk hdst h
end
section
variable {P:Program}
theorem zjo (w:World) (t ty e:TypeId) (i:TypeInfo) (ht:P.underlying t=some (.slice e)) (hi:P.info? e=some i) (base q:Option Addr) (sl cap c:Nat) (h:sl<=cap) :
  (Builtin.append_ #[t,t] ty #[.slice base sl cap,.slice q 0 c]).run P w=.ok (.slice base sl cap) w:=by
 have hf:(Builtin.firstCells i.size 0 (.slice q 0 c)).run P w=.ok #[] w:=by
  cases q with
  | none=>rfl
  | some a=>exact run_firstCells_some (P:=P) w i.size 0 a 0 c [] (by simp) (by simp)
 cases base with
 | none=>simp [Builtin.append_,run_underlying ht,sizeOf,typeInfo,hi,Builtin.lenOf,h,hf]
 | some a=>simp [Builtin.append_,run_underlying ht,sizeOf,typeInfo,hi,Builtin.lenOf,h,hf,storeCells]
theorem zxs {o:Oper} {a:Act} {W:World} {R Rp:Value->World->Prop} {x y:Operand} {t e:TypeId} {i:TypeInfo} {z:Value} {base:Option Addr} {g2 off2 m m':Nat} {nw:List Value}
  (ho:o.op=.call { callee:=.builtin .append,args:=#[x,y],argTypes:=#[t,t] }) (ht:P.underlying t=some (.slice e)) (hi:P.info? e=some i) (hz:i.zero=some z)
  (hx:a.eval x=.slice base 0 0) (hy:a.eval y=.slice (some ⟨g2,off2,none⟩) m m') (hl:nw.length=m*i.size) (hn:∀ j u,nw[j]? = some u->W.cell? ((⟨g2,off2,none⟩:Addr).add j)=some u)
  (hm:0<m) (hb1:m<=maxLen) (hb2:m*i.bytes<=140737488355328)
  (grow:∀ cap',m<=cap'->R (.slice (some ⟨W.heap.size,0,none⟩) m cap') (W.drew.alloc (.cells (nw.toArray++Builtin.zeroCells z.cells (cap' - m)) e))):zjx P o a W R Rp:=by
 unfold zjx
 cases base with
 | none =>
  have h:=run_append_nil (P:=P) W t o.type e i z ht hi hz ⟨g2,off2,none⟩ m m' nw hl hn hm (by simp only [maxLen] at hb1;omega) (by omega)
  simp only [execOp,ho,resolve,Sem.run_bind,Sem.run_pure,Result.andThen_ok,invoke,builtin,List.map_toArray,List.map_cons,List.map_nil,hx,hy,h]
  exact grow _ (grownCap_ge _ _ _ _)
 | some b =>
  have h:=run_append_grow (P:=P) W t o.type e i z ht hi hz b 0 0 [] (by simp) (by simp) ⟨g2,off2,none⟩ m m' nw hl hn (by omega) (by simp only [maxLen] at hb1;omega) (by simpa using growslice_fits (need:=0+m) (old:=0) (by omega) (by simpa using hb2))
  simp only [Nat.zero_add] at h
  simp only [execOp,ho,resolve,Sem.run_bind,Sem.run_pure,Result.andThen_ok,invoke,builtin,List.map_toArray,List.map_cons,List.map_nil,hx,hy,h]
  have:=grow _ (grownCap_ge W m 0 e)
  simpa using this
end
section
variable {P:Program} {C:Ctx} {n:Nat} {d:List Deferred} {ro:Option Nat} {s:GS} {K:Exit->GS->Prop}
theorem z36 {ops:Array Oper} {o:Oper} {post:List Oper} {base k:Nat} {ts:Nat->Value} {hp:Hp} {yc:Nat} {tx ty:Tmp} {t e:TypeId} {sz by':Nat} {z:Value} {p:Option Addr} {j off2 m m':Nat} {b2:Blk} {nw:List Value} (hg:o.guard=none) (hd:∀ dd,o.dst=some dd->dd<n)
  (ho:o.op=.call { callee:=.builtin .append,args:=#[.tmp tx,.tmp ty],argTypes:=#[t,t] }) (ht:P.underlying t=some (.slice e)) (hs:zas P e=some sz) (hz:zbd P e=some z) (hby:zib P e=some by')
  (hx:ts tx=.slice p 0 0) (hy:ts ty=.slice (some ⟨j,off2,none⟩) m m') (hb2:hp j=some b2) (hnw:∀ q u,nw[q]? = some u->b2.c[off2+q]? = some u) (hb2f:∀ x∈nw,za9 x=true) (hzf:∀ q,∀ x∈Builtin.zeroCells z.cells q,za9 x=true)
  (hm0:0<m) (hm:m*sz=nw.length) (hs1:m<=maxLen) (hs2:m*by'<=140737488355328)
  (grow:∀ cap',m<=cap'->GL P C n d ro ops base (k+1) post (zcq ts o.dst (.slice (some ⟨base+8*k,0,none⟩) m cap')) (upd hp (base+8*k) (some ⟨(nw++(Builtin.zeroCells z.cells (cap' - m)).toList).toArray,.ty e⟩)) yc K) (hrd:b2.T.rd=true:=by first|rfl|assumption):GL P C n d ro ops base k (o::post) ts hp yc K:=by
 intro r a W hi hf hb hG hR
 unfold zas at hs;unfold zbd at hz;unfold zib at hby
 cases hii:P.info? e with
 | none=>rw [hii] at hs;cases hs
 | some i =>
  rw [hii] at hs hz hby
  simp only [Option.map_some,Option.some.injEq,Option.bind_some] at hs hz hby
  subst hs;subst hby
  refine wpListIn_plain hg λK' hK'=>?_
  have ex:∃ p',a.eval (.tmp tx)=.slice p' 0 0:=by
   have:=(hi.rel tx).resolve_left (by rw [hx];simp [zcj])
   rw [hx] at this
   cases p with
   | none=>exact ⟨none,this.1⟩
   | some q=>exact ⟨_,this.1⟩
  obtain ⟨p',ex⟩:=ex
  have ey:a.eval (.tmp ty)=.slice (some ⟨r j,off2,none⟩) m m':=by
   have:=(hi.rel ty).resolve_left (by rw [hy];simp [zcj])
   rw [hy] at this
   exact this.1
  have hn:∀ q u,nw[q]? = some u->W.cell? ((⟨r j,off2,none⟩:Addr).add q)=some u:=λq u hq=>by
   rw [Addr.add_lit]
   exact zqf (hi.sat j b2 hb2).1 (hnw q u hq) (hb2f u (List.mem_of_getElem? hq)) hrd
  have hnk:hp (base+8*k)=none:=hf _ (Nat.le_refl _)
  refine zdj (by rw [ho];intro c;simp) (zxs (R:=λu W'=>wpListIn (Fw P ro) 0 P ops _ post (a.put o.dst u) W') (Rp:=λ_ _=>False) ho ht hii hz ex ey hm.symm hn hm0 hs1 hs2 (λcap' hcap=>?_)) (λu W' h=>hK' _ _ h) (λpv W' h=>h.elim)
  have hff:∀ x∈(nw++(Builtin.zeroCells z.cells (cap' - m)).toList).toArray,za9 x=true:=λx hx=>by
   simp only [List.mem_toArray,List.mem_append] at hx
   rcases hx with hx|hx
   ·exact hb2f x hx
   ·exact hzf _ x (by simpa using hx)
  have hnd:¬dom hp (base+8*k):=by unfold dom;simp [hnk]
  have hr':∀ q,dom hp q->upd r (base+8*k) W.heap.size q=r q:=λq hq=>zaa _ _ (λe=>hnd (e▸hq))
  have hv:(Value.slice (some ⟨W.heap.size,0,none⟩) m cap')=ren (upd r (base+8*k) W.heap.size) (.slice (some ⟨base+8*k,0,none⟩) m cap'):=by simp [ren,zay,zaj,zam,za4]
  have ec:nw.toArray++Builtin.zeroCells z.cells (cap' - m)=(nw++(Builtin.zeroCells z.cells (cap' - m)).toList).toArray:=by
   rw [<-List.append_toArray,Array.toArray_toList]
  rw [hv,ec]
  refine grow cap' hcap (upd r (base+8*k) W.heap.size) _ _ (hi.drew.after (e:=⟨.slice (some ⟨base+8*k,0,none⟩) m cap',[],[],[(base+8*k,⟨_,.ty e⟩)],none,false⟩) hd hr' (by simp [zan,za0,zah,zal,zcu,zab]) ⟨rfl,rfl,rfl,(by show W.heap.size<=(W.heap.push _).size;simp),λq hq _=>?_,λp hp1=>?_,λp hp1=>?_,by simp⟩ (by simp [zab]) (by simp [zab,hnk];omega)) (λx hx'=>?_) hb hG hR
  ·exact Below.heap_alloc _ _ _ hq
  ·simp only [List.nil_append,List.mem_singleton] at hp1
   subst hp1
   refine ⟨?_,Blk.flat_ids hff⟩
   rw [Blk.obj_flat hff]
   show (W.drew.alloc _).heap[upd r (base+8*k) W.heap.size (base+8*k)]? = _
   rw [za4]
   exact heap_alloc_new W.drew _
  ·simp only [List.mem_singleton] at hp1
   subst hp1
   show W.heap.size<=upd r (base+8*k) W.heap.size (base+8*k)
   rw [za4]
   exact Nat.le_refl _
  ·rw [zaa _ _ (λe=>by omega)]
   exact hf x (by omega)
end
end Go.Gy
namespace Go.Gy
open Go Go.RowKit
section
variable {P:Program}
def rdI (b:Blk) (off N:Nat) (f:Nat->Int):Prop:=∀ j,j<N->b.c[off+j]? = some (.int .i64 (f j))
theorem rdI.le {b:Blk} {off N M:Nat} {f:Nat->Int} (h:rdI b off N f) (hm:M<=N):rdI b off M f:=λj hj=>h j (by omega)
theorem ziz {T:TypeId} {b:Blk} {off:Nat} {v:Value} (h:zbx P T b.c off=some v) (hf:zau v=true) (hrd:b.T.rd=true:=by first|rfl|assumption):zc2 P T b off=some v:=by
 obtain ⟨c,t⟩:=b
 cases t with
 | ty t=>exact h
 | raw t fr=>simp only [zc2];simp only at h;rw [h];simp [hf]
 | mp=>cases hrd
theorem zzv (m:Nat) (k:IntKind) (f:Nat->Int):zau (.agg (fa m k f))=true:=by
 simp [zau,zgk]
theorem z0l {T:TypeId} {m:Nat} (h1:zfa P T=some true) (h2:zas P T=some m) (hm:0<m) {b:Blk} {off N j:Nat} {f:Nat->Int} (h:rdI b off N f) (hj:j+m<=N) (hrd:b.T.rd=true:=by first|rfl|assumption):zc2 P T b (off+j)=some (.agg (fa m .i64 λq=>f (j+q))):=by
 have hsz:off+j+m<=b.c.size:=by
  have:=h (j+m - 1) (by omega)
  have:=(Array.getElem?_eq_some_iff.1 this).1
  omega
 have he:b.c.extract (off+j) (off+j+m)=fa m .i64 λq=>f (j+q):=by
  apply Array.ext_getElem?
  intro q
  rw [Array.getElem?_extract]
  by_cases hq:q<m
  ·rw [if_pos (by omega),zdx _ _ _ _ hq,Nat.add_assoc,h (j+q) (by omega)]
  ·rw [if_neg (by omega)]
   simp [fa];omega
 refine ziz ?_ (zzv _ _ _)
 simp only [zbx,h1,h2,if_pos hsz,he]
theorem znx {T:TypeId} (h1:zfa P T=some false) {b:Blk} {off N j:Nat} {f:Nat->Int} (h:rdI b off N f) (hj:j<N) (hrd:b.T.rd=true:=by first|rfl|assumption):zc2 P T b (off+j)=some (.int .i64 (f j)):=by
 refine ziz ?_ (by simp [zau,zgk,za9,zgt])
 simp only [zbx,h1,h j hj]
 rfl
theorem jl0 (k:IntKind) (f:Nat->Int):fa 6 k f=#[.int k (f 0),.int k (f 1),.int k (f 2),.int k (f 3),.int k (f 4),.int k (f 5)]:=by
 apply Array.ext'
 simp [fa,Array.toList_ofFn,List.ofFn_succ]
def ji5 (f:Nat->Int) (o:Nat) (a b c:Int):Nat->Int:=λj=>if j=o then a else if j=o+1 then b else if j=o+2 then c else f j
theorem jgp (N:Nat) (k:IntKind) (f:Nat->Int) (o:Nat) (a b c:Int) (h:o+3<=N):zcg (fa N k f) o [.int k a,.int k b,.int k c]=fa N k (ji5 f o a b c):=by
 apply Array.ext_getElem?
 intro j
 rw [zkz]
 by_cases hj:j<N
 ·rw [zdx _ _ _ _ hj,zdx _ _ _ _ hj]
  unfold ji5
  by_cases h0:j=o
  ·subst h0;simp [hj]
  ·by_cases h1:j=o+1
   ·subst h1;simp [hj]
   ·by_cases h2:j=o+2
    ·subst h2;simp [hj]
    ·rw [if_neg (by simp;omega),if_neg h0,if_neg h1,if_neg h2]
 ·rw [if_neg (by simp;omega)]
  have h1:(fa N k f)[j]? = none:=by simp [fa];omega
  have h2:(fa N k (ji5 f o a b c))[j]? = none:=by simp [fa];omega
  rw [h1,h2]
def ji6 (f:Nat->Int) (a m:Nat) (g:Nat->Int):Nat->Int:=λj=>if a<=j/\j<a+m then g (j - a) else f j
def z7x (f:Nat->Int) (a m:Nat) (g:Nat->Int):Nat->Int:=λj=>if j<a then f j else if j<a+m then g (j - a) else 0
theorem zlw {l:List Value} {N:Nat} {k:IntKind} {g:Nat->Int} (hl:l.length=N) (h:∀ j,j<N->l[j]? = some (.int k (g j))):l.toArray=fa N k g:=by
 apply Array.ext_getElem?
 intro j
 by_cases hj:j<N
 ·rw [zdx _ _ _ _ hj,List.getElem?_toArray,h j hj]
 ·have h1:(fa N k g)[j]? = none:=by simp [fa];omega
  rw [h1,List.getElem?_toArray,List.getElem?_eq_none (by omega)]
theorem zb6 {N:Nat} {k:IntKind} {f:Nat->Int} {j:Nat} (h:j<N):(fa N k f).toList[j]? = some (.int k (f j)):=by
 rw [Array.getElem?_toList];exact zdx _ _ _ _ h
theorem zc6 (N:Nat) (k:IntKind) (f:Nat->Int):(fa N k f).toList.length=N:=by simp
theorem zyz {N a m:Nat} {k:IntKind} {f g:Nat->Int} (h:a+m<=N):((fa N k f).toList.take a++(fa m k g).toList++(fa N k f).toList.drop (a+(fa m k g).toList.length)).toArray=fa N k (ji6 f a m g):=by
 refine zlw (by simp;omega) λj hj=>?_
 rw [zc6]
 have hta:((fa N k f).toList.take a).length=a:=by simp;omega
 unfold ji6
 by_cases h1:j<a
 ·rw [List.append_assoc,List.getElem?_append_left (by omega),List.getElem?_take,if_pos h1,zb6 (by omega),if_neg (by omega)]
 ·rw [List.append_assoc,List.getElem?_append_right (by omega),hta]
  by_cases h2:j<a+m
  ·rw [List.getElem?_append_left (by simp;omega),zb6 (by omega),if_pos (by omega)]
  ·rw [List.getElem?_append_right (by simp;omega),zc6,List.getElem?_drop,if_neg (by omega),show a+m+(j - a - m)=j by omega,zb6 hj]
theorem zru {z:Array Value} {k:IntKind} (hz:∀ x∈z,x=.int k 0) (q:Nat):(Builtin.zeroCells z q).toList=(fa (q*z.size) k λ_=>0).toList:=by
 have e:(Builtin.zeroCells z q).toList.toArray=fa (q*z.size) k λ_=>0:=zlw (by simp [zp5]) λj hj=>by
  have hj':j<(Builtin.zeroCells z q).size:=by rw [zp5];exact hj
  rw [Array.getElem?_toList,Array.getElem?_eq_getElem hj']
  exact congrArg some (hz _ (zrt (Array.getElem_mem hj')))
 rw [<-e]
theorem zyy {N a m q:Nat} {k:IntKind} {f g:Nat->Int} (h:a<=N):((fa N k f).toList.take a++(fa m k g).toList++(fa q k λ_=>0).toList).toArray=fa (a+m+q) k (z7x f a m g):=by
 refine zlw (by simp;omega) λj hj=>?_
 have hta:((fa N k f).toList.take a).length=a:=by simp;omega
 unfold z7x
 by_cases h1:j<a
 ·rw [List.append_assoc,List.getElem?_append_left (by omega),List.getElem?_take,if_pos h1,zb6 (by omega),if_pos h1]
 ·rw [List.append_assoc,List.getElem?_append_right (by omega),hta,if_neg h1]
  by_cases h2:j<a+m
  ·rw [List.getElem?_append_left (by simp;omega),zb6 (by omega),if_pos h2]
  ·rw [List.getElem?_append_right (by simp;omega),zc6,zb6 (by omega),if_neg h2]
theorem z4m {m q:Nat} {k:IntKind} {g:Nat->Int}:((fa m k g).toList++(fa q k λ_=>0).toList).toArray=fa (m+q) k (z7x g m 0 g):=by
 refine zlw (by simp) λj hj=>?_
 unfold z7x
 by_cases h1:j<m
 ·rw [List.getElem?_append_left (by simp;omega),zb6 h1,if_pos h1]
 ·rw [List.getElem?_append_right (by simp;omega),zc6,zb6 (by omega),if_neg h1,if_neg (by omega)]
theorem zfn {N:Nat} {k:IntKind} {f:Nat->Int}:∀ x∈(fa N k f).toList,za9 x=true:=λx hx=>by
 obtain ⟨m,rfl⟩:=zkh (Array.mem_toList_iff.1 hx)
 rfl
theorem zpc {N:Nat} {k:IntKind} {f:Nat->Int}:∀ x∈(fa N k f).toList,x.oneCell'=true:=λx hx=>by
 obtain ⟨m,rfl⟩:=zkh (Array.mem_toList_iff.1 hx)
 rfl
end
end Go.Gy
namespace Go.Gy
open Go Go.RowKit
section
variable {P:Program} {G:Hp}
variable {C:Ctx} {n:Nat} {d:List Deferred} {s:GS} {K:Exit->GS->Prop}
theorem WeakR.subd {ρ:Nat->Nat} {s':GS} (hw:WeakR C ρ s s') (hg:∀ k,k<100->s.hp k=C.G k) (k:Nat) (hk:dom s'.hp k):dom s.hp (ρ k):=by
 unfold dom at hk
 cases hb:s'.hp k with
 | none=>exact absurd hb hk
 | some b =>
  by_cases h1:100<=k
  ·unfold dom;rw [(hw.hp k b hb h1).1];simp
  ·rw [hw.id k (by omega)]
   unfold dom;rw [hg k (by omega),<-hw.glob k (by omega),hb];simp
theorem Own0.rename {So:Nat->Prop} {ms:List Nat} {yc B2 B yc':Nat} {a:Act} {r ρ:Nat->Nat} {ts:Nat->Value} {hp hq:Hp} {V:World} (h:Own0 C d So ms yc a r ts hp V) (hw:WeakR C ρ ⟨ts,hp,B2,yc'⟩ ⟨ts,hq,B,yc'⟩):Own0 C d So ms yc a (λk=>r (ρ k)) ts hq V:=by
 have subd:=hw.subd (λk hk=>h.glob k hk)
 have sub:∀ k b,hq k=some b->hp (ρ k)=some (b.rn ρ):=λk b hb=>by
  by_cases hk:100<=k
  ·exact (hw.hp k b hb hk).1
  ·have hg:C.G k=some b:=(hw.glob k (by omega)).symm.trans hb
   rw [hw.id k (by omega),hw.rest k b (by omega) hg,h.glob k (by omega)]
   exact hg
 refine ⟨λt=>?_,λk b hb=>?_,λk l hk hl e=>hw.inj k l hk hl (h.inj _ _ (subd k hk) (subd l hl) e),h.X,λi hd h1=>?_,h.mks,λi hi=>?_,hw.glob,λk hk hd=>?_⟩
 ·rcases hw.ts t with e|⟨e,hne,hi⟩
  ·exact .inl e
  ·have e':=(h.ri t).resolve_left hne
   refine .inr ⟨?_,hi⟩
   have e2:ts t=ren ρ (ts t):=e
   rw [e'.1]
   conv=>lhs;rw [e2]
   rw [zcc]
 ·have hs:=(h.sat _ _ (sub k b hb)).1
  rw [Blk.rn_obj] at hs
  exact ⟨hs,hw.ids k b hb⟩
 ·refine h.sep _ (subd i hd) ?_
  have hd':dom hq i:=hd
  unfold dom at hd'
  cases hb:hq i with
  | none=>exact absurd hb hd'
  | some b=>exact (hw.hp i b hb h1).2
 ·have hk:=h.keep i hi
  by_cases h1:100<=i
  ·have hh:=hw.keep i h1 hi
   exact ⟨hh.1,by rw [hh.2];exact hk.2⟩
  ·refine ⟨?_,by rw [hw.id i (by omega)];exact hk.2⟩
   show dom hq i
   unfold dom
   have e1:hq i=C.G i:=hw.glob i (by omega)
   rw [e1,<-h.glob i (by omega)];exact hk.1
 ·have hd':=subd k hd
  rw [hw.id k hk] at hd' |-
  exact h.low k hk hd'
end
section
variable {P:Program} {G:Hp}
structure IterK (P:Program) (G:Hp) (f:FuncId) (caps:Array Value) (hp:Hp) (rs:List Nat) (xs:List (Array Value)):Prop where
 enter:∀ a w,(callFunc f a).run P w=.ok (.enter f a) w
 cids:∀ x∈caps,zbj x=true/\zan (dom (rst hp rs)) x
 closed:∀ k b,rst hp rs k=some b->b.ids (dom (rst hp rs))
 run:∀ (E:Ext) (l stop:Nat) r S W,GOK G W->Sat r (dom (rst hp rs)) (rst hp rs) W->Inj r (dom (rst hp rs))->(∀ k,k<100->dom (rst hp rs) k->r k=k)->zfh P G E ⟨l,xs,stop,none,none⟩->E.X 0 S W->(∀ k,S k->k<W.heap.size) ->
  (∀ i,dom (rst hp rs) i->100<=i->¬S (r i)) ->
  zdw P f (#[Value.func (.yield l) #[] #[]]++caps.map (ren r)) W λe W'=>(∃ v,e=.returned v)/\(∃ S',E.X (min (stop+1) xs.length) S' W')/\∀ k,dom (rst hp rs) k->W'.heap[r k]? = W.heap[r k]?
theorem IterK.g {f:FuncId} {caps:Array Value} {hp:Hp} {rs:List Nat} {xs:List (Array Value)} (h:IterK P G f caps hp rs xs):zg2 P G f caps hp rs xs :=
 ⟨h.enter,h.cids,h.closed,λE l stop r S W h1 h2 h3 h4 _ h5 h6 h7 h8=>(h.run E l stop r S W h1 h2 h3 h4 h5 h6 h7 h8).mono λ_ _ hh=>⟨hh.1,hh.2.1⟩⟩
theorem z0d {f:FuncId} {fn:Func} {c:Code} {caps:Array Value} {hp:Hp} {rs:List Nat} {xs:List (Array Value)} {B:Nat} {v:Value} (hGF:zbg G) (hG:∀ k,k<100->hp k=G k) (hf:P.funcs[f]? = some fn) (hb:fn.body=some c) (hcall:∀ a w,(callFunc f a).run P w=.ok (.enter f a) w)
  (ha:∀ x∈caps,zbj x=true/\zan (dom (rst hp rs)) x) (hcl:∀ k b,rst hp rs k=some b->b.ids (dom (rst hp rs))) (hn:caps.size+1<=fn.ntmps) (hB:100<=B) (hfree:∀ x,B<=x->rst hp rs x=none)
  (h:∀ (C:Ctx) (l stop:Nat),C.G=G->C.hp0=rst hp rs->C.Y=some ⟨l,xs,stop,none,none⟩->GW P C fn.ntmps [] none c ⟨λt=>(#[Value.func (.yield l) #[] #[]]++caps).getD t undef,rst hp rs,B,0⟩
   (λe s=>(e=.normal\/e=.ret)/\zmq P fn.results.toList s.ts s.hp=some v/\s.yc=min (stop+1) xs.length/\∀ k,dom (rst hp rs) k->s.hp k=rst hp rs k)):IterK P G f caps hp rs xs:=by
 refine ⟨hcall,ha,hcl,λE l stop r S W hgok hsat hinj hlow hR hX hS hdis=>callsIn_of_wp_marks hf hb ⟨fn,hf⟩ ?_⟩
 let C:Ctx:=⟨E,rst hp rs,r,G,some ⟨l,xs,stop,none,none⟩⟩
 have hi:GI P C fn.ntmps [] r ⟨λt=>(#[Value.func (.yield l) #[] #[]]++caps).getD t undef,rst hp rs,B,0⟩
   { tmps:=(#[Value.func (.yield l) #[] #[]]++caps.map (ren r))++Array.replicate (fn.ntmps - (#[Value.func (.yield l) #[] #[]]++caps.map (ren r)).size) undef,defers:=[] } W:=by
  have hsz:(#[Value.func (.yield l) #[] #[]]++caps.map (ren r)).size=(#[Value.func (.yield l) #[] #[]]++caps).size:=by simp
  have hmap:#[Value.func (.yield l) #[] #[]]++caps.map (ren r)=(#[Value.func (.yield l) #[] #[]]++caps).map (ren r):=by simp [ren,zay,zaj]
  refine ⟨⟨?_,λt=>?_,hsat,hinj,⟨S,[],hX,hS,λi hi h1=>hdis i hi h1,⟨rfl,List.nodup_nil⟩,by simp⟩,λi hi=>⟨hi,rfl⟩,λk hk=>?_,hlow⟩,hfree,hB,hGF,λy hy=>by cases hy;exact ⟨hR,trivial⟩⟩
  ·simp only [Array.size_append,Array.size_replicate,hsz]
   simp
   omega
  ·right
   dsimp only
   rw [hmap]
   generalize hA:#[Value.func (.yield l) #[] #[]]++caps=A
   have hAi:∀ x∈A,zan (dom (rst hp rs)) x:=λx hx=>by
    rw [<-hA] at hx
    rcases Array.mem_append.1 hx with hx|hx
    ·simp at hx;subst hx;simp [zan,za0,zah]
    ·exact (ha x hx).2
   by_cases ht:t<A.size
   ·have hm:A[t]∈A:=Array.getElem_mem ht
    have e:A.getD t undef=A[t]:=by simp [Array.getD,ht]
    rw [e]
    refine ⟨?_,hAi _ hm⟩
    have:t<(A.map (ren r)).size:=by simpa using ht
    simp [Array.getElem?_append_left this,ht]
   ·have e:A.getD t undef=undef:=by simp [Array.getElem?_eq_none (Nat.le_of_not_lt ht)]
    rw [e]
    refine ⟨?_,zcl _⟩
    rw [zb9]
    simp only [Array.getD_eq_getD_getElem?]
    rw [Array.getElem?_append_right (by simpa using Nat.le_of_not_lt ht),Array.getElem?_replicate]
    split<;>rfl
  ·show rst hp rs k=G k
   simp [rst,hk,hG k hk]
 refine wpIn_mono (h C l stop rfl rfl rfl r _ W hi) ?_
 rintro e a' W' ⟨s',r',hres,hi'⟩
 obtain ⟨S',ms,hX',hS1,hS2,⟨hdef,hnd⟩,hms⟩:=hi'.ri.ext
 obtain ⟨he,hr,hy,hkp⟩:=hres
 have hend:∀ W'':World,W''.heap.size=W'.heap.size->W''.os=W'.os->W''.tape=W'.tape->W''.output=W'.output->(∀ k,k∉ms->W''.heap[k]? = W'.heap[k]?) ->
   LeavesIn (Fw P none) 0 P fn a'.tmps (λe W'=>(∃ v,e=.returned v)/\(∃ S',E.X (min (stop+1) xs.length) S' W')/\∀ k,dom (rst hp rs) k->W'.heap[r k]? = W.heap[r k]?) [] .returning W'':=λW'' e1 e2 e3 e4 e5=>by
  have hsat':Sat r' (dom s'.hp) s'.hp W'':=λk b hk=>⟨by
   rw [e5 _ (λhm=>hi'.ri.ne_mark (by unfold dom;rw [hk];simp) (hms _ hm).1 rfl)]
   exact (hi'.ri.sat k b hk).1,(hi'.ri.sat k b hk).2⟩
  refine ⟨_,zc8 (fn:=fn) hi'.ri.rel hsat' hr,⟨_,rfl⟩,⟨S',?_⟩,λk hk=>?_⟩
  rotate_left
  ·have hkk:dom s'.hp k/\r' k=r k:=hi'.ri.keep k hk
   unfold dom at hk
   cases hb:rst hp rs k with
   | none=>exact absurd hb hk
   | some b =>
    have e6:s'.hp k=some b:=(hkp k (by unfold dom;rw [hb];simp)).trans hb
    have e7:=(hsat' k b e6).1
    rw [hkk.2,Blk.obj_congr (λq hq=>(hi'.ri.keep q hq).2) (hcl k b hb)] at e7
    rw [e7,(hsat k b hb).1]
  rw [<-hy]
  exact E.ok _ _ _ _ hX' (λk hk=>e5 k λhm=>(hms k hm).2.1 hk) e2 e3 e4 (by rw [e1];exact Nat.le_refl _)
 rcases he with rfl|rfl
 ·show LeavesInM _ _ _ _ _ _ a'.defers _ _
  rw [hdef,List.append_nil]
  exact zcx (by simp) ms W' hnd (λD hD=>(hms D hD).1) hend
 ·show LeavesInM _ _ _ _ _ _ a'.defers _ _
  rw [hdef,List.append_nil]
  exact zcx (by simp) ms W' hnd (λD hD=>(hms D hD).1) hend
end
section
variable {P:Program} {G:Hp}
variable {C:Ctx} {n:Nat} {d:List Deferred} {s:GS} {K:Exit->GS->Prop}
def zfg (C:Ctx) (l:Nat):Prop:=∀ c S W,C.E.X c S W->S l/\∃ r0,W.heap[l]? = some (.loop r0)
theorem zwy {t:Tmp} {ps:Array Tmp} {assign body:Code} {f:FuncId} {caps:Array Value} {rs:List Nat} {xs:List (Array Value)} (hg:s.ts t=.func (.func f) #[] caps) (hit:IterK P C.G f caps s.hp rs xs)
  (hxs:∀ x∈xs,x.size=ps.size/\∀ v∈x,zau v=true) (hps:∀ p∈ps,p<n) (tsE:Nat->Value) (I:Nat->Hp->Prop) {hpS:Hp} (B:Nat) (N:Nat) (hN:N<=xs.length)
  (hw:Weak C s ⟨tsE,hpS,B,s.yc⟩) (h0:I 0 hpS) (hdis:∀ k∈rs,hpS k=none/\dom s.hp k)
  (rounds:∀ i x hq,i<N->xs[i]? = some x->I i hq->∀ (C1:Ctx) (l:Nat),C1.G=C.G->C1.hp0=hq->C1.Y=none->GW P C1 n [] (some l) assign ⟨zao ps.toList x.toList tsE,hq,B,0⟩
   (zbo (λs1=>∀ C2:Ctx,C2.G=C.G->C2.hp0=hq->C2.Y=none->zfg C2 l->GW P C2 n [] (some l) body s1 (zbo (λs2=>∃ ρ hq',WeakR C ρ ⟨tsE,s2.hp,s2.B,s.yc⟩ ⟨tsE,hq',B,s.yc⟩/\I (i+1) hq') (λ_ _=>False))) (λ_ _=>False)))
  (fin:(N=xs.length/\∀ hq,I N hq->K .normal ⟨tsE,hq,B,s.yc⟩)\/∃ x,xs[N]? = some x/\∀ hq,I N hq->∀ (C1:Ctx) (l:Nat),C1.G=C.G->C1.hp0=hq->C1.Y=none->GW P C1 n [] (some l) assign ⟨zao ps.toList x.toList tsE,hq,B,0⟩
    (zbo (λs1=>∀ C2:Ctx,C2.G=C.G->C2.hp0=hq->C2.Y=none->zfg C2 l->GW P C2 n [] (some l) body s1 (λe s2=>(zbc e).isSome=true/\(∀ t,zan (dom s2.hp) (tsE t))/\K e ⟨tsE,s2.hp,s2.B,s.yc⟩)) (λ_ _=>False)))
  (hYn:C.Y≠some .still) {r:Nat->Nat} {a:Act} {W:World} (hi0:GI P C n d r s a W) :
  (Code.rangeFunc (.tmp t) ps assign body).wpIn (Fw P none) 0 P (λe a' W'=>∃ s' r',(K e s'/\GI P C n d r' s' a' W')/\a'.tmps=a.tmps/\(∀ k,dom (rst s.hp rs) k->W'.heap[r k]? = W.heap[r k]?)/\(∀ i,dom s'.hp i->∀ k∈rs,100<=k->r' i≠r k)) a W:=by
 obtain ⟨pn,hpn⟩:∃ pn:Option Value,pn=none:=⟨_,rfl⟩
 have hi:=hi0.weak hw
 obtain ⟨So,ms,hX0,hSo,hsep,⟨hdef,hnd⟩,hms⟩:=hi0.ri.ext
 have hcapv:a.eval (.tmp t)=.func (.func f) #[] (caps.map (zam r)):=by
  have:=((hi0.ri.rel t).resolve_left (by rw [hg];simp [zcj])).1
  rw [hg] at this
  simpa [ren,zay,zaj,Act.eval] using this
 have hcap:caps.map (zam r)=caps.map (ren r):=Array.map_congr_left λx hx=>(zb5 (hit.cids x hx).1).symm
 rw [hcap] at hcapv
 refine wpIn_rangeFunc ?_
 rintro fn ⟨fnn,hfnn⟩
 obtain ⟨rec,hrec⟩:∃ rec:LoopState->Option Code->Loop,rec=λst pe=>{ state:=st,pending:=pe,fn,tmps:=a.tmps,params:=ps,assign,body,defers:=W.heap.size }:=⟨_,rfl⟩
 obtain ⟨W1,hW1⟩:∃ W1,(W.alloc (.deferred (some []))).alloc (.loop (rec .ready none))=W1:=⟨_,rfl⟩
 have hL1:W1.heap[W.heap.size+1]? = some (.loop (rec .ready none)):=by
  rw [<-hW1];have:=World.alloc_heap_new (W.alloc (.deferred (some []))) (.loop (rec .ready none));rwa [World.size_alloc] at this
 have hK1:W1.heap[W.heap.size]? = some (.deferred (some [])):=by
  rw [<-hW1];exact (Below.heap_alloc _ _ _ (by simp)).trans (World.alloc_heap_new W _)
 have hsz1:W1.heap.size=W.heap.size+2:=by rw [<-hW1];simp
 have hb1:Below W.heap.size W W1:=by
  rw [<-hW1];exact (((Below.refl _ W).alloc (Nat.le_refl _) _).alloc (by simp) _)
 let l:=W.heap.size+1
 let D0:=W.heap.size
 let capd:Nat->Prop:=λj=>∃ i,i∈rs/\100<=i/\r i=j
 -- what is said between two rounds
 let Lv:LoopState->Option Code->World->Prop:=λst pe V=>V.heap[l]? = some (.loop (rec st pe))/\V.heap[D0]? = some (.deferred (some []))
 let XX:Nat->(Nat->Prop)->World->Prop:=λc S V=>(∀ k,So k->S k)/\(∀ D∈ms,S D)/\S l/\S D0/\(∀ k,S k->¬capd k) /\
  ((c<=N/\∃ hq,I c hq/\(∀ x,B<=x->hq x=none)/\∃ rc,(∀ i,dom hq i->S (rc i))/\zle S V (λV'=>Own0 C d So ms s.yc a rc tsE hq V'/\Lv .ready none V')) \/
  (c=N+1/\∃ e hpE BE rc,((pn=none/\(zbc e).isSome=true)\/∃ pv,pn=some pv/\e=.panic [{ v:=pv,recovered:=false }])/\K e ⟨tsE,hpE,BE,s.yc⟩/\(∀ x,BE<=x->hpE x=none)/\100<=BE/\(∀ i,dom hpE i->S (rc i))/\zle S V (λV'=>Own0 C d So ms s.yc a rc tsE hpE V'/\V'.heap[D0]? = some (.deferred (some []))/\∀ j,zbc e=some j->Lv .done (some j) V')))
 let E:Ext:=⟨XX,λc S V V' h hs os tape output size=>⟨h.1,h.2.1,h.2.2.1,h.2.2.2.1,h.2.2.2.2.1,h.2.2.2.2.2.imp (λ⟨hc,hq,hI,hf,rc,h1,h2⟩=>⟨hc,hq,hI,hf,rc,h1,h2.trans (λ_ h=>h) hs os tape output size⟩)
  (λ⟨hc,e,hpE,BE,rc,h1,h2,h3,h4,h5,h6⟩=>⟨hc,e,hpE,BE,rc,h1,h2,h3,h4,h5,h6.trans (λ_ h=>h) hs os tape output size⟩)⟩⟩
 have sub:∀ i,dom (hpS) i->dom s.hp i:=λi hd=>by
  have hhp:hpS i=none\/hpS i=s.hp i:=by
   by_cases hk:100<=i
   ·exact hw.hp i hk
   ·exact .inr ((hw.glob i (by omega)).trans (hi0.ri.glob i (by omega)).symm)
  rcases hhp with e|e
  ·exact absurd e hd
  ·have e:hpS i=s.hp i:=e
   unfold dom at *;rw [<-e];exact hd
 have own0:Own0 C d So ms s.yc a r tsE (hpS) W1:=⟨hi.ri.rel,λk b hk=>⟨(hb1.block _ (hi.ri.lt (k:=k) (by unfold dom;show hpS k≠none;rw [hk];simp))).trans (hi.ri.sat k b hk).1,(hi.ri.sat k b hk).2⟩,hi.ri.inj,
  C.E.ok _ _ _ _ hX0 (λk hk=>hb1.block k (hSo k hk)) hb1.os hb1.tape hb1.output hb1.size,λi hd h1=>hsep i (sub i hd) h1,
  λD hD=>(hb1.block D (Array.getElem?_eq_some_iff.1 (hms D hD).1).1).trans (hms D hD).1,hi.ri.keep,hi.ri.glob,hi.ri.low⟩
 have incap:∀ i,dom s.hp i->capd (r i)->i∈rs:=λi hd ⟨j,hj,_,e⟩=>by
  have:=hi0.ri.inj j i (hdis j hj).2 hd e
  exact this▸hj
 let S1:Nat->Prop:=λk=>k<W1.heap.size/\¬capd k
 have capSmall:∀ k,capd k->k<W.heap.size:=λk ⟨i,hi1,_,e⟩=>e▸hi0.ri.lt (hdis i hi1).2
 have s1So:∀ k,So k->S1 k:=λk hk=>⟨by have:=hSo k hk;omega,λ⟨i,hi1,h1,e⟩=>hsep i (hdis i hi1).2 h1 (e▸hk)⟩
 have s1ms:∀ D∈ms,S1 D:=λD hD=>⟨by have:=(Array.getElem?_eq_some_iff.1 (hms D hD).1).1;omega,λ⟨i,hi1,_,e⟩=>hi0.ri.ne_mark (hdis i hi1).2 (hms D hD).1 e⟩
 have s1l:S1 l:=⟨by omega,λhc=>by have:=capSmall _ hc;omega⟩
 have s1D:S1 D0:=⟨by omega,λhc=>by have:=capSmall _ hc;omega⟩
 have s1hp:∀ i,dom (hpS) i->S1 (r i):=λi hd=>⟨by have:=hi0.ri.lt (sub i hd);omega,λhc=>hd (hdis i (incap i (sub i hd) hc)).1⟩
 have X0:XX 0 S1 W1:=⟨s1So,s1ms,s1l,s1D,λk hk=>hk.2,.inl ⟨Nat.zero_le _,hpS,h0,hw.free,r,s1hp,λV k1 k2 k3 k4 k5=>⟨own0.supp s1So s1hp s1ms V k1 k2 k3 k4 k5,(k1 l s1l).trans hL1,(k1 D0 s1D).trans hK1⟩⟩⟩
 have gokOf:∀ {rc:Nat->Nat} {hpc:Hp} {V:World},Sat rc (dom hpc) hpc V->(∀ k,k<100->hpc k=C.G k)->(∀ k,k<100->dom hpc k->rc k=k)->GOK C.G V:=λ{rc hpc V} h1 h2 h3 k b hk=>by
  obtain ⟨hlt,hfl⟩:=hi0.flat k b hk
  have hb:hpc k=some b:=(h2 k hlt).trans hk
  have h9:=(h1 k b hb).1
  rw [h3 k hlt (by unfold dom;rw [hb];simp)] at h9
  rw [h9]
  rw [Blk.obj_flat (λx hx=>hfl x hx)]
 -- one round
 have hround:zfh P C.G E ⟨l,xs,N,pn,none⟩:=by
  refine zfh.of_none rfl ?_
  intro c x S V hgok hx hc hXc hSV
  obtain ⟨kSo,kms,kl,kD,kcap,hcase⟩:=hXc
  have hcN:c<=N:=hc
  obtain ⟨hc',hq,hI,hfreeC,rc,hrcS,hsupp⟩:c<=N/\∃ hq,I c hq/\(∀ x,B<=x->hq x=none)/\∃ rc,(∀ i,dom hq i->S (rc i))/\zle S V (λV'=>Own0 C d So ms s.yc a rc tsE hq V'/\Lv .ready none V'):=by
   rcases hcase with h|h
   ·exact h
   ·omega
  obtain ⟨hown,hl,hD⟩:=hsupp.here
  have hxm:=hxs x (List.mem_of_getElem? hx)
  have hy:=run_yield (P:=P) (args:=x) hl (by rw [hrec];exact hxm.1)
  rw [hrec] at hy
  refine ⟨fn,_,assign,body,hy,zdu ⟨fnn,hfnn⟩ hfnn ?_⟩
  have hrel:=zl4 (r:=rc) (D:=dom hq) (ps.toList.zip x.toList) tsE a.tmps (λp hp1=>⟨by rw [hi0.ri.size];exact hps _ (by simpa using (List.of_mem_zip hp1).1),hxm.2 _ (by simpa using (List.of_mem_zip hp1).2)⟩) hown.ri
  have htm:(ps.zip x).foldl (λt (p:Tmp×Value)=>t.setIfInBounds p.1 p.2) a.tmps=(ps.toList.zip x.toList).foldl (λt (p:Tmp×Value)=>t.setIfInBounds p.1 p.2) a.tmps:=by
   rw [<-Array.foldl_toList,Array.toList_zip]
  have hsize:((ps.zip x).foldl (λt (p:Tmp×Value)=>t.setIfInBounds p.1 p.2) a.tmps).size=n:=by
   rw [htm,zen,hi0.ri.size]
  let im:Nat->Prop:=imO rc hq
  let RR:Ending->World->Prop:=λe W'=>(match (YG.mk l xs N pn none).pan c with|none=>e=.returned (.bool (c != N))|some pv=>e=.panicked [{ v:=pv,recovered:=false }])/\GOK C.G W'/\V.heap.size<=W'.heap.size/\(∀ k,k<V.heap.size->¬S k->W'.heap[k]? = V.heap[k]?) /\
      ∃ S',XX (c+1) S' W'/\(∀ k,S' k->k<W'.heap.size)/\∀ k,S' k->k<V.heap.size->S k
  -- the assignment to the loop's variables
  let C1:Ctx:=⟨zdg V im,hq,rc,C.G,none⟩
  have ltV:∀ i,dom hq i->rc i<V.heap.size:=λi hd=>hSV _ (hrcS i hd)
  have gi1:GI P C1 n [] rc ⟨zao ps.toList x.toList tsE,hq,B,0⟩ { tmps:=(ps.zip x).foldl (λt (p:Tmp×Value)=>t.setIfInBounds p.1 p.2) a.tmps,defers:=[] } V:=by
   refine ⟨⟨hsize,?_,hown.sat,hown.inj,⟨λk=>k<V.heap.size/\¬im k,[],⟨λ_=>Iff.rfl,rfl,rfl,rfl,Nat.le_refl _,λ_ _=>rfl⟩,λk hk=>hk.1,λi hd _ hS=>hS.2 ⟨i,hd,rfl⟩,⟨rfl,List.nodup_nil⟩,by simp⟩,λi hd=>⟨hd,rfl⟩,hown.glob,hown.low⟩,hfreeC,hw.low,hi0.flat,λy hy=>by cases hy⟩
   rw [htm];exact hrel
  have hSol:¬So l:=λh=>by have:=hSo _ h;omega
  -- a round's frame,from its assignment on
  have both:∀ (Kb:Exit->GS->Prop),GW P C1 n [] (some l) assign ⟨zao ps.toList x.toList tsE,hq,B,0⟩ (zbo (λs1=>∀ C2:Ctx,C2.G=C.G->C2.hp0=hq->C2.Y=none->zfg C2 l->GW P C2 n [] (some l) body s1 Kb) (λ_ _=>False)) ->
    (∀ e s2 (r2:Nat->Nat) (V1 V2:World) (a1 a2:Act) (r1:Nat->Nat) (ts1:Nat->Value) (hp1:Hp) (y1:Nat) (D1:Nat->Prop),(∀ k,k<V.heap.size->D1 k->imO r1 hp1 k)->¬D1 l->Kb e s2->RI ⟨zdg V im,hq,rc,C.G,none⟩ n [] r1 ts1 hp1 y1 a1 V1 ->
     GI P ⟨zdg (V1.putObj l (.loop (rec .busy none))) D1,hq,rc,C.G,none⟩ n [] r2 s2 a2 V2->zdh (Fs P) 0 P fnn l RR e a2 V2) ->
    assign.wpIn ((Fs P).inRound l) 0 P (Exit.then (λa₁ w₁=>∃ w₂,(Instr.beginRound l).run P w₁=.ok () w₂/\body.wpIn ((Fs P).inRound l) 0 P (zdh (Fs P) 0 P fnn l RR) a₁ w₂) (λ_ _ _=>False))
     { tmps:=(ps.zip x).foldl (λt (p:Tmp×Value)=>t.setIfInBounds p.1 p.2) a.tmps,defers:=[] } V:=λKb hgw hend=>by
   refine wpIn_mono (hgw rc _ V gi1) ?_
   rintro e a1 V1 ⟨s1,r1,hk1,gi⟩
   cases e with
   | normal =>
    obtain ⟨T1,m1,⟨hT1,os1,tp1,ou1,sz1,sm1⟩,hT1s,sep1,df1,dm1⟩:=gi.ri.ext
    have hl1:V1.heap[l]? = some (.loop (rec .ready none)):=by
     rw [sm1 l ((hT1 l).2 ⟨hSV l kl,?_⟩)]
     ·exact hl
     ·rintro ⟨i,hd,e⟩
      unfold dom at hd
      cases hb:hq i with
      | none=>exact hd hb
      | some b=>have:=(hown.sat i b hb).1;rw [e,hl] at this;exact (Blk.obj_loop this).elim
    refine ⟨_,run_beginRound hl1 (by rw [hrec]),?_⟩
    have hrb:{ rec .ready none with state:=.busy }=rec .busy none:=by rw [hrec]
    rw [hrb]
    have hlt1:l<V1.heap.size:=(Array.getElem?_eq_some_iff.1 hl1).1
    let D1:Nat->Prop:=λk=>imO r1 s1.hp k\/k∈m1
    let C2:Ctx:=⟨zdg (V1.putObj l (.loop (rec .busy none))) D1,hq,rc,C.G,none⟩
    have gi2:GI P C2 n [] r1 s1 a1 (V1.putObj l (.loop (rec .busy none))):=by
     refine ⟨⟨gi.ri.size,gi.ri.rel,λk b hk=>⟨(World.putObj_heap_other (λe=>gi.ri.not_loop hl1 ⟨k,by unfold dom;rw [hk];simp,e⟩)).trans (gi.ri.sat k b hk).1,(gi.ri.sat k b hk).2⟩,gi.ri.inj,
      ⟨λk=>k<(V1.putObj l (.loop (rec .busy none))).heap.size/\¬D1 k,m1,⟨λ_=>Iff.rfl,rfl,rfl,rfl,Nat.le_refl _,λ_ _=>rfl⟩,λk hk=>hk.1,λi hd _ hS=>hS.2 (.inl ⟨i,hd,rfl⟩),df1,λD hD=>⟨?_,(λhS=>hS.2 (.inr hD)),λh=>nomatch h⟩⟩,
      λi hd=>gi.ri.keep i hd,gi.ri.glob,gi.ri.low⟩,gi.free,gi.low,gi.flat,λy hy=>by cases hy⟩
     rw [World.putObj_heap_other (λe=>?_)]
     ·exact (dm1 D hD).1
     ·have:=(dm1 D hD).1;rw [e,hl1] at this;cases this
    have hLA:zfg C2 l:=λc S V0 h=>by
     have hS:S l:=(h.1 l).2 ⟨by rw [zbt];exact hlt1,λhD=>hD.elim (λh=>gi.ri.not_loop hl1 h) λh=>by have:=(dm1 l h).1;rw [hl1] at this;cases this⟩
     exact ⟨hS,_,(h.2.2.2.2.2 l hS).trans (World.putObj_heap_same hlt1)⟩
    refine wpIn_mono (hk1 C2 rfl rfl rfl hLA r1 a1 _ gi2) ?_
    rintro e2 a2 V2 ⟨s2,r2,hk2,gi3⟩
    refine hend e2 s2 r2 V1 V2 a1 a2 r1 s1.ts s1.hp s1.yc D1 (λk hk hD=>?_) (λhD=>?_) hk2 gi.ri gi3
    ·rcases hD with h|h
     ·exact h
     ·have h2:=(dm1 k h).2.1
      rw [hT1] at h2
      obtain ⟨i,hd,e⟩:=Classical.byContradiction λhc=>h2 ⟨hk,hc⟩
      have h3:=(dm1 k h).1
      by_cases h100:100<=i
      ·have:dom s1.hp i/\r1 i=rc i:=gi.ri.keep i hd
       exact ⟨i,this.1,this.2.trans e⟩
      ·have:dom s1.hp i/\r1 i=rc i:=gi.ri.keep i hd
       exact ⟨i,this.1,this.2.trans e⟩
    ·rcases hD with h|h
     ·exact gi.ri.not_loop hl1 h
     ·have:=(dm1 l h).1;rw [hl1] at this;cases this
   | _=>exact hk1.elim
  -- what a round leaves,put together
  have post:∀ (st:LoopState) (pe:Option Code) (r2:Nat->Nat) (V1 V2:World) (a1 a2:Act) (r1:Nat->Nat) (ts1 ts2:Nat->Value) (hp1 hp2:Hp) (y1 y2:Nat) (D1:Nat->Prop),(∀ k,k<V.heap.size->D1 k->imO r1 hp1 k)->¬D1 l->RI ⟨zdg V im,hq,rc,C.G,none⟩ n [] r1 ts1 hp1 y1 a1 V1 ->
    RI ⟨zdg (V1.putObj l (.loop (rec .busy none))) D1,hq,rc,C.G,none⟩ n [] r2 ts2 hp2 y2 a2 V2 ->
    V2.heap[l]? = some (.loop (rec .busy none))/\GOK C.G (V2.putObj l (.loop (rec st pe)))/\V.heap.size<=(V2.putObj l (.loop (rec st pe))).heap.size/\(∀ k,k<V.heap.size->¬S k->(V2.putObj l (.loop (rec st pe))).heap[k]? = V.heap[k]?) /\
    ∃ S':Nat->Prop,(∀ k,So k->S' k)/\(∀ D∈ms,S' D)/\S' l/\S' D0/\(∀ i,dom hp2 i->S' (r2 i))/\zle S' (V2.putObj l (.loop (rec st pe))) (λV'=>Own0 C d So ms s.yc a r2 tsE hp2 V'/\Lv st pe V') /\
     (∀ k,S' k->k<(V2.putObj l (.loop (rec st pe))).heap.size)/\(∀ k,S' k->k<V.heap.size->S k):=λst pe r2 V1 V2 a1 a2 r1 ts1 ts2 hp1 hp2 y1 y2 D1 hD1 hD1l ri1 ri2=>by
   obtain ⟨_,q1,q2,q3,q4,q5,q6⟩:=zjm (L2:=rec st pe) hi0.flat hown hSol hSV kSo kms hrcS hl ri1 hD1 hD1l ri2
   have sz:(V2.putObj l (.loop (rec st pe))).heap.size=V2.heap.size:=zbt _ _ _
   have hnim:∀ k,¬S k->¬imO rc hq k:=λk hk ⟨i,hd,e⟩=>hk (e▸hrcS i hd)
   refine ⟨q1,q6,by rw [sz];exact q4,λk hk hnS=>q5 k hk (hnim k hnS) (λe=>hnS (e▸kl)),λk=>S k\/(V.heap.size<=k/\k<V2.heap.size),λk hk=>.inl (kSo k hk),λD hD=>.inl (kms D hD),.inl kl,.inl kD,λi hd=>?_,?_,λk hk=>?_,λk hk hlt=>?_⟩
   ·rcases q3 i hd with h|h
    ·exact .inr ⟨h,by
      unfold dom at hd
      cases hb:hp2 i with
      | none=>exact absurd hb hd
      | some b=>have:=(Array.getElem?_eq_some_iff.1 (q2.sat i b hb).1).1;rwa [sz] at this⟩
    ·exact .inl h
   ·have hD0:(V2.putObj l (.loop (rec st pe))).heap[D0]? = some (.deferred (some [])):=by
     rw [q5 D0 (hSV D0 kD) (λ⟨i,hd',e⟩=>by
      unfold dom at hd'
      cases hb:hq i with
      | none=>exact hd' hb
      | some b=>have:=(hown.sat i b hb).1;rw [e,hD] at this;exact (Blk.obj_def this).elim) (by omega)]
     exact hD
    have hlt2:l<V2.heap.size:=(Array.getElem?_eq_some_iff.1 q1).1
    refine λV' k1 k2 k3 k4 k5=>⟨q2.supp (S:=λk=>S k\/(V.heap.size<=k/\k<V2.heap.size)) (λk hk=>.inl (kSo k hk)) (λi hd=>?_) (λD hD=>.inl (kms D hD)) V' k1 k2 k3 k4 k5,(k1 l (.inl kl)).trans (World.putObj_heap_same hlt2),(k1 D0 (.inl kD)).trans hD0⟩
    rcases q3 i hd with h|h
    ·exact .inr ⟨h,by
      unfold dom at hd
      cases hb:hp2 i with
      | none=>exact absurd hb hd
      | some b=>have:=(Array.getElem?_eq_some_iff.1 (q2.sat i b hb).1).1;rwa [sz] at this⟩
    ·exact .inl h
   ·rw [sz]
    rcases hk with h|h
    ·exact Nat.lt_of_lt_of_le (hSV k h) q4
    ·exact h.2
   ·exact hk.resolve_right (by omega)
  have capN:∀ S':Nat->Prop,(∀ k,S' k->k<V.heap.size->S k)->∀ k,S' k->¬capd k:=λS' h12 k hk hc=>by
   by_cases hlt:k<V.heap.size
   ·exact kcap k (h12 k hk hlt) hc
   ·have h5:=capSmall k hc
    have h6:=hSV D0 kD
    exact hlt (by omega)
  by_cases hcn:c<N
  ·refine both _ (rounds c x hq hcn hx hI C1 l rfl rfl rfl) ?_
   intro e s2 r2 V1 V2 a1 a2 r1 ts1 hp1 y1 D1 hD1 hD1l hk ri1 gi2
   cases e with
   | normal =>
    obtain ⟨ρ,hq',hwr,hI'⟩:=hk
    obtain ⟨p1,p2,p3,p4,S',p5,p6,p7,p8,p9,p10,p11,p12⟩:=post .ready none r2 V1 V2 a1 a2 r1 ts1 _ hp1 _ y1 _ D1 hD1 hD1l ri1 gi2.ri
    have hend:=run_endRound (P:=P) none p1
    rw [hrec] at hend p2 p3 p4 p10 p11
    refine ⟨_,_,hend,?_,p2,p3,p4,S',⟨p5,p6,p7,p8,capN S' p12,.inl ⟨hcn,hq',hI',hwr.free,λk=>r2 (ρ k),λi hd=>p9 (ρ i) (hwr.subd (λk hk=>gi2.ri.glob k hk) i hd),?_⟩⟩,p11,p12⟩
    ·have h1:(YG.mk l xs N pn none).pan c=none:=by
      show (if c=N then pn else none)=none
      rw [if_neg (by omega)]
     have h2:(c != N)=true:=by simp;omega
     rw [h1,h2];rfl
    ·intro V' k1 k2 k3 k4 k5
     have:=p10 V' k1 k2 k3 k4 k5
     exact ⟨this.1.rename hwr,by simpa [hrec] using this.2⟩
   | _=>exact hk.elim
  ·obtain rfl:c=N:=by omega
   have hpanN:(YG.mk l xs c pn none).pan c=pn:=by
    show (if c=c then pn else none)=pn
    rw [if_pos rfl]
   cases pn with
   | none =>
    rcases fin with ⟨e,_⟩|⟨x',hx',hfin⟩
    ·obtain ⟨h9,_⟩:=List.getElem?_eq_some_iff.1 hx;have h9:c<xs.length:=h9;omega
    ·have hx:xs[c]? = some x:=hx
     rw [hx] at hx';cases hx'
     refine both _ (hfin hq hI C1 l rfl rfl rfl) ?_
     intro e s2 r2 V1 V2 a1 a2 r1 ts1 hp1 y1 D1 hD1 hD1l hk ri1 gi2
     obtain ⟨hk1,hk2,hk3⟩:=hk
     cases ho:zbc e with
     | none=>rw [ho] at hk1;cases hk1
     | some j =>
      obtain ⟨p1,p2,p3,p4,S',p5,p6,p7,p8,p9,p10,p11,p12⟩:=post .done (some j) r2 V1 V2 a1 a2 r1 ts1 _ hp1 _ y1 _ D1 hD1 hD1l ri1 gi2.ri
      have hend:=run_endRound (P:=P) (some j) p1
      rw [hrec] at hend p2 p3 p4 p10 p11
      have hR:∃ v w',(Instr.endRound l (some j)).run P V2=.ok v w'/\RR (.returned v) w':=by
       refine ⟨_,_,hend,?_,p2,p3,p4,S',⟨p5,p6,p7,p8,capN S' p12,.inr ⟨rfl,e,s2.hp,s2.B,r2,.inl ⟨rfl,hk1⟩,hk3,gi2.free,gi2.low,p9,?_⟩⟩,p11,p12⟩
       ·rw [hpanN];simp
       ·intro V' k1 k2 k3 k4 k5
        obtain ⟨q1,q2⟩:=p10 V' k1 k2 k3 k4 k5
        refine ⟨q1,q2.2,λj' hj'=>?_⟩
        rw [ho] at hj';cases hj'
        simpa [hrec] using q2
      cases e<;>simp only [zbc,Option.some.injEq,reduceCtorEq] at ho
      ·subst ho;exact hR
      ·subst ho;exact hR
      ·subst ho;exact hR
   | some pv=>cases hpn
 -- behind the iterator
 refine ⟨l,[zt2 D0],W1,{ target:=.fn (.func f) (caps.map (ren r)),args:=#[.func (.yield l) #[] #[]] },W1,f,#[Value.func (.yield l) #[] #[]]++caps.map (ren r),W1,?_,?_,λf' hf'=>?_,?_,λh=>(by cases h),?_⟩
 ·rw [<-hW1,hrec];exact run_enterLoop_outer _ _ _ _ _
 ·simp only [resolve,hcapv]
  simp [go_sem,Act.eval]
 ·simp [Target.leads] at hf'
  subst hf'
  exact ze1 (hit.enter #[] default)
 ·simp [invoke,go_sem,hit.enter]
 ·have hsat1:Sat r (dom (rst s.hp rs)) (rst s.hp rs) W1:=λk b hk=>⟨(hb1.block _ (hi0.ri.lt (k:=k) (by unfold dom;rw [zcy hk];simp))).trans (hi0.ri.sat k b (zcy hk)).1,hit.closed k b hk⟩
  have hsubr:∀ k,dom (rst s.hp rs) k->dom s.hp k:=λk hk=>by
   unfold dom at *
   cases hb:rst s.hp rs k with
   | none=>exact absurd hb hk
   | some b=>rw [zcy hb];simp
  subst hpn
  have hcalls:=hit.run E l N r S1 W1 (gokOf own0.sat own0.glob own0.low) hsat1 (λk l' hk hl=>hi0.ri.inj k l' (hsubr k hk) (hsubr l' hl)) (λk hk hd=>hi0.ri.low k hk (hsubr k hd)) hround X0 (λk hk=>hk.1) (λi hd h1 hS=>hS.2 ?_)
  ·refine CallsIn.mono (hcalls:CallsIn (Fw P none) 0 P _ _ _ _) ?_
   -- the owner's activation,behind it all
   have giV:∀ (rc:Nat->Nat) (hpE:Hp) (BE:Nat) (V:World),(∀ x,BE<=x->hpE x=none)->100<=BE->Own0 C d So ms s.yc a rc tsE hpE V->V.heap[D0]? = some (.deferred (some []))->W.heap.size<=V.heap.size ->
     GI P C n d rc ⟨tsE,hpE,BE,s.yc⟩ { a with defers:=[zt2 D0]++a.defers } V:=λrc hpE BE V hfree hBE hown hD hsz =>
    ⟨⟨hi0.ri.size,hown.ri,hown.sat,hown.inj,
     ⟨So,D0::ms,hown.X,λk hk=>Nat.lt_of_lt_of_le (hSo k hk) hsz,hown.sep,⟨by simp [hdef],List.nodup_cons.2 ⟨λhm=>by have:=(Array.getElem?_eq_some_iff.1 (hms D0 hm).1).1;omega,hnd⟩⟩,λD hDm=>by
      rcases List.mem_cons.1 hDm with rfl|hDm
      ·exact ⟨hD,(λhS=>by have:=hSo _ hS;omega),hYn⟩
      ·exact ⟨hown.mks D hDm,(hms D hDm).2⟩⟩,
     hown.keep,hown.glob,hown.low⟩,hfree,hBE,hi0.flat,hi0.rounds⟩
   have szOf:∀ {S:Nat->Prop} {V:World} {c:Nat},XX c S V->(∀ V,XX c S V->S l->True)->V.heap[D0]? = some (.deferred (some []))->W.heap.size<=V.heap.size:=λ{S V c} _ _ h=>by
    have:=(Array.getElem?_eq_some_iff.1 h).1;omega
   rintro e V ⟨⟨v,rfl⟩,⟨S',hX⟩,hkeepB⟩
   obtain ⟨kSo,kms,kl,kD,kcap,hcase⟩:=hX
   have keepF:∀ ob k,dom (rst s.hp rs) k->(V.putObj l ob).heap[r k]? = W.heap[r k]?:=λob k hk=>by
    have hlt:=hi0.ri.lt (hsubr k hk)
    rw [World.putObj_heap_other (λe=>by have e':W.heap.size+1=r k:=e.symm;omega),hkeepB k hk]
    exact hb1.block _ hlt
   have noCap:∀ (rc:Nat->Nat) (hpE:Hp),(∀ i,dom hpE i->S' (rc i))->∀ i,dom hpE i->∀ k∈rs,100<=k->rc i≠r k:=λrc hpE hrcS i hd k hk h1 e=>kcap (rc i) (hrcS i hd) ⟨k,hk,h1,e.symm⟩
   have fini:∀ (st:LoopState) (pe:Option Code) (rc:Nat->Nat) (hpE:Hp) (BE:Nat),st≠.busy->(∀ x,BE<=x->hpE x=none)->100<=BE->Own0 C d So ms s.yc a rc tsE hpE V->Lv st pe V ->
     (Instr.endLoop l).run P V=.ok pe (V.putObj l (.loop { rec st pe with state:=.exhausted }))/\GI P C n d rc ⟨tsE,hpE,BE,s.yc⟩ { a with defers:=[zt2 D0]++a.defers } (V.putObj l (.loop { rec st pe with state:=.exhausted })):=λst pe rc hpE BE hst hfree hBE hown ⟨hl,hD⟩=>by
    have hend:=run_endLoop (P:=P) hl (by rw [hrec];exact hst)
    refine ⟨by rw [hrec] at hend |-;exact hend,?_⟩
    have hlt:l<V.heap.size:=(Array.getElem?_eq_some_iff.1 hl).1
    have szV:∀ ob,(V.putObj l ob).heap.size=V.heap.size:=λob=>zbt _ _ _
    refine ⟨⟨hi0.ri.size,hown.ri,λk b hk=>⟨(World.putObj_heap_other (λe=>?_)).trans (hown.sat k b hk).1,(hown.sat k b hk).2⟩,hown.inj,
     ⟨So,D0::ms,C.E.ok _ _ _ _ hown.X (λk hk=>World.putObj_heap_other (λe=>by have:=hSo k hk;omega)) rfl rfl rfl (by rw [szV];exact Nat.le_refl _),λk hk=>by rw [szV];have:=hSo k hk;omega,hown.sep,⟨by simp [hdef],List.nodup_cons.2 ⟨λhm=>?_,hnd⟩⟩,λD hDm=>?_⟩,
     hown.keep,hown.glob,hown.low⟩,hfree,hBE,hi0.flat,hi0.rounds⟩
    ·have:=(hown.sat k b hk).1;rw [e,hl] at this;exact (Blk.obj_loop this).elim
    ·have:=(Array.getElem?_eq_some_iff.1 (hms D0 hm).1).1;omega
    ·rcases List.mem_cons.1 hDm with rfl|hDm
     ·exact ⟨(World.putObj_heap_other (by omega)).trans hD,(λhS=>by have:=hSo _ hS;omega),hYn⟩
     ·exact ⟨(World.putObj_heap_other (λe=>by have:=hown.mks D hDm;rw [e,hl] at this;cases this)).trans (hown.mks D hDm),(hms D hDm).2⟩
   rcases hcase with ⟨hc',hq,hI,hfree,rc,hrcS,hsupp⟩|⟨hc',e,hpE,BE,rc,ho,hk,hfree,hBE,hrcS,hsupp⟩
   ·obtain ⟨hown,hLv⟩:=hsupp.here
    have hNl:N=xs.length:=by omega
    have hmin:min (N+1) xs.length=N:=by omega
    rw [hmin] at hI
    obtain ⟨f1,f2⟩:=fini .ready none rc hq B (by simp) hfree hw.low hown hLv
    rcases fin with ⟨_,hK⟩|⟨x',hx',_⟩
    ·exact ⟨none,_,f1,_,rc,⟨hK hq hI,f2⟩,rfl,keepF _,noCap rc hq hrcS⟩
    ·obtain ⟨h9,_⟩:=List.getElem?_eq_some_iff.1 hx';omega
   ·obtain ⟨hown,_,hLv⟩:=hsupp.here
    rcases ho with ⟨_,ho⟩|⟨pv,h1,_⟩
    ·cases hoj:zbc e with
     | none=>rw [hoj] at ho;cases ho
     | some j =>
      obtain ⟨f1,f2⟩:=fini .done (some j) rc hpE BE (by simp) hfree hBE hown (hLv j hoj)
      refine ⟨some j,_,f1,?_⟩
      cases e<;>simp only [zbc,Option.some.injEq,reduceCtorEq] at hoj
      ·subst hoj;exact wpIn_exit ⟨_,rc,⟨hk,f2⟩,rfl,keepF _,noCap rc hpE hrcS⟩
      ·subst hoj;exact wpIn_goto ⟨_,rc,⟨hk,f2⟩,rfl,keepF _,noCap rc hpE hrcS⟩
      ·subst hoj;exact wpIn_ret ⟨_,rc,⟨hk,f2⟩,rfl,keepF _,noCap rc hpE hrcS⟩
    ·cases h1
  ·refine ⟨i,?_,h1,rfl⟩
   unfold dom rst at hd
   split at hd
   ·rename_i h;exact h.resolve_left (by omega)
   ·exact absurd rfl hd
theorem IterK.under {f:FuncId} {caps:Array Value} {hp hp':Hp} {rs:List Nat} {xs:List (Array Value)} (h:IterK P G f caps hp rs xs) (e:rst hp' rs=rst hp rs):IterK P G f caps hp' rs xs :=
 ⟨h.enter,by rw [e];exact h.cids,by rw [e];exact h.closed,by rw [e];exact h.run⟩
def zbw (asd:List Nat) (hp0 hp:Hp):Hp:=λk=>if k∈asd then hp0 k else hp k
theorem WeakR.ctx {C':Ctx} {ρ:Nat->Nat} {s s':GS} (h:C.hp0=C'.hp0) (hG:C.G=C'.G) (hw:WeakR C ρ s s'):WeakR C' ρ s s':=⟨hw.ts,hw.hp,hw.ids,hw.inj,hw.id,by rw [<-hG];exact hw.rest,by rw [<-h];exact hw.keep,by rw [<-hG];exact hw.glob,hw.yc,hw.free,hw.low⟩
theorem zj5 {t:Tmp} {ps:Array Tmp} {assign body:Code} {f:FuncId} {caps:Array Value} {rs:List Nat} {xs:List (Array Value)} (asd:List Nat) (hY:C.Y=none) (hg:s.ts t=.func (.func f) #[] caps) (hit:IterK P C.G f caps s.hp rs xs)
  (hxs:∀ x∈xs,x.size=ps.size/\∀ v∈x,zau v=true) (hps:∀ p∈ps,p<n) (tsE tsF:Nat->Value) (I:Nat->Hp->Prop) {hpS:Hp} (B:Nat) (N:Nat) (hN:N<=xs.length)
  (hras:∀ k∈rs,k∈asd) (has:∀ k∈asd,100<=k/\dom s.hp k) (hcl:∀ k∈asd,∀ b,s.hp k=some b->b.ids λq=>q∈asd\/(q<100/\dom C.G q))
  (hw:∀ C0:Ctx,C0.G=C.G->(C0.hp0=λk=>if k∈asd then none else C.hp0 k)->Weak C0 s ⟨tsE,hpS,B,s.yc⟩) (h0:I 0 hpS) (hnS:∀ k∈asd,hpS k=none)
  (hF:∀ u,tsF u=tsE u\/(tsF u=s.ts u/\zan (λq=>q∈asd) (s.ts u)))
  (rounds:∀ i x hq,i<N->xs[i]? = some x->I i hq->∀ (C1:Ctx) (l:Nat),C1.G=C.G->C1.hp0=hq->C1.Y=none->GW P C1 n [] (some l) assign ⟨zao ps.toList x.toList tsE,hq,B,0⟩
   (zbo (λs1=>∀ C2:Ctx,C2.G=C.G->C2.hp0=hq->C2.Y=none->zfg C2 l->GW P C2 n [] (some l) body s1 (zbo (λs2=>∃ ρ hq',(∀ C0:Ctx,C0.G=C.G->(C0.hp0=λk=>if k∈asd then none else C.hp0 k)->WeakR C0 ρ ⟨tsE,s2.hp,s2.B,s.yc⟩ ⟨tsE,hq',B,s.yc⟩)/\I (i+1) hq') (λ_ _=>False))) (λ_ _=>False)))
  (fin:(N=xs.length/\∀ hq,I N hq->(∀ k∈asd,hq k=none/\k<B)/\K .normal ⟨tsF,zbw asd s.hp hq,B,s.yc⟩)\/∃ x,xs[N]? = some x/\∀ hq,I N hq->∀ (C1:Ctx) (l:Nat),C1.G=C.G->C1.hp0=hq->C1.Y=none->GW P C1 n [] (some l) assign ⟨zao ps.toList x.toList tsE,hq,B,0⟩
    (zbo (λs1=>∀ C2:Ctx,C2.G=C.G->C2.hp0=hq->C2.Y=none->zfg C2 l->GW P C2 n [] (some l) body s1 (λe s2=>(zbc e).isSome=true/\(∀ t,zan (dom s2.hp) (tsE t))/\(∀ k∈asd,s2.hp k=none/\k<s2.B)/\K e ⟨tsF,zbw asd s.hp s2.hp,s2.B,s.yc⟩)) (λ_ _=>False))) :
  GW P C n d none (.rangeFunc (.tmp t) ps assign body) s K:=by
 intro r a W hi
 obtain ⟨So,ms,hX0,hSo,hsep,hdef,hms⟩:=hi.ri.ext
 have hA100:∀ k,k<100->k∉asd:=λk hk hm=>by have:=(has k hm).1;omega
 let A:Nat->Prop:=λj=>∃ i,i∈asd/\i∉rs/\r i=j
 let E':Ext:=⟨λc S V=>C.E.X c So V/\(∀ k,So k->S k)/\∀ j,A j->S j/\V.heap[j]? = W.heap[j]?,
  λc S V V' h hs os tape output size=>⟨C.E.ok _ _ _ _ h.1 (λk hk=>hs k (h.2.1 k hk)) os tape output size,h.2.1,λj hj=>⟨(h.2.2 j hj).1,(hs j (h.2.2 j hj).1).trans (h.2.2 j hj).2⟩⟩⟩
 let C':Ctx:={ C with E:=E',hp0:=λk=>if k∈asd then none else C.hp0 k }
 have hw':=hw C' rfl rfl
 let hpR:Hp:=λk=>if k∈rs then s.hp k else hpS k
 let s':GS:=⟨λu=>if u=t then s.ts t else tsE u,hpR,s.B,s.yc⟩
 have subS:∀ k b,hpS k=some b->s.hp k=some b:=λk b hb=>by
  by_cases h1:100<=k
  ·rcases hw'.hp k h1 with h|h
   ·have h:hpS k=none:=h
    rw [h] at hb;cases hb
   ·have h:hpS k=s.hp k:=h
    rw [<-h];exact hb
  ·have h2:hpS k=C.G k:=hw'.glob k (by omega)
   rw [hi.ri.glob k (by omega),<-h2];exact hb
 have subR:∀ k b,hpR k=some b->s.hp k=some b:=λk b hb=>by
  by_cases h1:k∈rs
  ·have:hpR k=s.hp k:=by simp [hpR,h1]
   rw [<-this];exact hb
  ·have:hpR k=hpS k:=by simp [hpR,h1]
   exact subS k b (this▸hb)
 have domR:∀ k,dom hpR k->dom s.hp k:=λk hk=>by
  unfold dom at hk |-
  cases hb:hpR k with
  | none=>exact absurd hb hk
  | some b=>rw [subR k b hb];simp
 have domSR:∀ k,dom hpS k->dom hpR k:=λk hk=>by
  unfold dom at *
  by_cases h1:k∈rs
  ·exact absurd (hnS k (hras k h1)) hk
  ·simpa [hpR,h1] using hk
 have erst:rst hpR rs=rst s.hp rs:=funext λk=>by
  unfold rst
  by_cases h1:k∈rs
  ·simp [hpR,h1]
  ·by_cases h2:k<100
   ·have e1:hpS k=C.G k:=hw'.glob k h2
    simp [hpR,h1,h2,e1,hi.ri.glob k h2]
   ·simp [h1,h2]
 have domrst:∀ k,dom (rst s.hp rs) k->dom hpR k:=λk hk=>by
  rw [<-erst] at hk
  unfold dom at *
  cases hb:rst hpR rs k with
  | none=>exact absurd hb hk
  | some b=>rw [zcy hb];simp
 have hit':IterK P C'.G f caps s'.hp rs xs:=hit.under erst
 have hi':GI P C' n d r s' a W:=by
  refine ⟨⟨hi.ri.size,λu=>?_,λk b hk=>⟨(hi.ri.sat k b (subR k b hk)).1,?_⟩,λk l hk hl e=>hi.ri.inj k l (domR k hk) (domR l hl) e,⟨λk=>So k\/A k,ms,⟨hX0,λk hk=>.inl hk,λj hj=>⟨.inr hj,rfl⟩⟩,λk hk=>?_,λi hd h1 hS=>?_,hdef,λD hD=>⟨(hms D hD).1,λhS=>?_,(hms D hD).2.2⟩⟩,λi hd=>?_,λk hk=>?_,λk hk hd=>hi.ri.low k hk (domR k hd)⟩,λx hx=>?_,hi.low,hi.flat,λy hy=>by have hy:C.Y=some y:=hy;rw [hY] at hy;cases hy⟩
  ·by_cases hu:u=t
   ·subst hu
    right
    have e:=(hi.ri.rel u).resolve_left (by rw [hg];simp [zcj])
    refine ⟨by simpa [s'] using e.1,?_⟩
    have e2:s'.ts u=.func (.func f) #[] caps:=by simp [s',hg]
    rw [e2]
    refine ⟨by simp,λx hx=>?_⟩
    have:=hit.cids x hx
    exact zfu domrst ((zbs this.1).1 this.2)
   ·have e2:s'.ts u=tsE u:=by simp [s',hu]
    rw [e2]
    rcases hw'.ts u with h|⟨h,hid⟩
    ·exact .inl h
    ·have h:tsE u=s.ts u:=h
     rcases hi.ri.rel u with h3|h3
     ·exact .inl (h.trans h3)
     ·exact .inr ⟨by rw [h];exact h3.1,zce domSR hid⟩
  ·by_cases h1:k∈rs
   ·have hk2:rst s.hp rs k=some b:=by
     have:s.hp k=some b:=subR k b hk
     simp [rst,h1,this]
    exact Blk.ids_mono domrst (hit.closed k b hk2)
   ·have hk2:hpS k=some b:=by
     have:hpR k=hpS k:=by simp [hpR,h1]
     exact this▸hk
    exact Blk.ids_mono domSR (hw'.ids k b hk2)
  ·rcases hk with hk|⟨i,hi1,_,rfl⟩
   ·exact hSo k hk
   ·exact hi.ri.lt (has i hi1).2
  ·rcases hS with hS|⟨i',hi1,hi2,e⟩
   ·exact hsep i (domR i hd) h1 hS
   ·have:i'=i:=hi.ri.inj i' i (has i' hi1).2 (domR i hd) e
    subst this
    have hd':hpR i'≠none:=hd
    have:hpR i'=hpS i':=by simp [hpR,hi2]
    exact hd' (this.trans (hnS i' hi1))
  ·rcases hS with hS|⟨i,hi1,_,e⟩
   ·exact (hms D hD).2.1 hS
   ·exact hi.ri.ne_mark (has i hi1).2 (hms D hD).1 e
  ·have hna:i∉asd:=λhm=>by
    have:(if i∈asd then none else C.hp0 i)≠none:=hd
    simp [hm] at this
   have hd0:dom C.hp0 i:=by
    have:(if i∈asd then none else C.hp0 i)≠none:=hd
    rw [if_neg hna] at this
    exact this
   refine ⟨?_,(hi.ri.keep i hd0).2⟩
   by_cases h1:100<=i
   ·have hk:=hw'.keep i h1 hd
    refine domSR i ?_
    have h2:=(hi.ri.keep i hd0).1
    unfold dom at *
    have hk:hpS i=s.hp i:=hk
    rw [hk];exact h2
   ·have h2:=(hi.ri.keep i hd0).1
    refine domSR i ?_
    have e1:hpS i=C.G i:=hw'.glob i (by omega)
    unfold dom at *
    rw [e1,<-hi.ri.glob i (by omega)];exact h2
  ·have h1:k∉rs:=λhm=>hA100 k hk (hras k hm)
   have:hpR k=hpS k:=by simp [hpR,h1]
   show hpR k=C.G k
   rw [this];exact hw'.glob k hk
  ·cases hb:hpR x with
   | none=>exact hb
   | some b =>
    have h1:s.hp x=none:=hi.free x hx
    rw [subR x b hb] at h1;cases h1
 have hw2:Weak C' s' ⟨tsE,hpS,B,s'.yc⟩:=by
  refine ⟨λu=>?_,λk hk=>?_,hw'.ids,λk h1 hd=>?_,hw'.glob,rfl,hw'.free,hw'.low⟩
  ·rcases hw'.ts u with h|⟨h,hid⟩
   ·exact .inl h
   ·refine .inr ⟨?_,hid⟩
    by_cases hu:u=t
    ·subst hu;simpa [s'] using h
    ·simp [s',hu]
  ·by_cases h1:k∈rs
   ·exact .inl (hnS k (hras k h1))
   ·exact .inr (by simp [s',hpR,h1])
  ·have hna:k∉asd:=λhm=>by
    have:(if k∈asd then none else C.hp0 k)≠none:=hd
    simp [hm] at this
   have h2:k∉rs:=λhm=>hna (hras k hm)
   show hpS k=hpR k
   simp [hpR,h2]
 have main:=zwy (P:=P) (C:=C') (n:=n) (d:=d) (s:=s') (K:=λe s2=>(∀ k∈asd,s2.hp k=none/\k<s2.B)/\(∀ u,s2.ts u=tsE u)/\s2.yc=s.yc/\K e ⟨tsF,zbw asd s.hp s2.hp,s2.B,s.yc⟩) (t:=t) (ps:=ps) (assign:=assign) (body:=body) (f:=f) (caps:=caps) (rs:=rs) (xs:=xs) (by simp [s',hg]) hit' hxs hps tsE I B N hN hw2 h0
  (λk hk=>⟨hnS k (hras k hk),by have:=(has k (hras k hk)).2;unfold dom at *;simpa [s',hpR,hk] using this⟩)
  (λi x hq h1 h2 h3 C1 l h4 h5 h6=>zb2 (rounds i x hq h1 h2 h3 C1 l h4 h5 h6) λe s1 hs=>by
   cases e with
   | normal =>
    intro C2 q1 q2 q3 q4
    refine zb2 (hs C2 q1 q2 q3 q4) λe s2 hs2=>?_
    cases e with
    | normal =>
     obtain ⟨ρ,hq',hr1,hr2⟩:=hs2
     exact ⟨ρ,hq',hr1 C' rfl rfl,hr2⟩
    | _=>exact hs2.elim
   | _=>exact hs.elim)
  (fin.imp (λ⟨h1,h2⟩=>⟨h1,λhq hI=>⟨(h2 hq hI).1,λ_=>rfl,rfl,(h2 hq hI).2⟩⟩) (λ⟨x,h1,h2⟩=>⟨x,h1,λhq hI C1 l q1 q2 q3=>zb2 (h2 hq hI C1 l q1 q2 q3) λe s1 hs=>by
   cases e with
   | normal =>
    intro C2 p1 p2 p3 p4
    exact zb2 (hs C2 p1 p2 p3 p4) λe s2 hs2=>⟨hs2.1,hs2.2.1,hs2.2.2.1,λ_=>rfl,rfl,hs2.2.2.2⟩
   | _=>exact hs.elim⟩))
  (by show C.Y≠some .still;rw [hY];simp) hi'
 refine wpIn_mono main ?_
 rintro e a' W' ⟨s2,r2,⟨⟨hna,hts2,hyc,hK⟩,gi⟩,htm,hkB,hnc⟩
 obtain ⟨S2,m2,⟨hX2,hSo2,hA2⟩,hS2,hsep2,hdef2,hms2⟩:=gi.ri.ext
 let r3:Nat->Nat:=λk=>if k∈asd then r k else r2 k
 have r3as:∀ k,k∈asd->r3 k=r k:=λk hk=>by simp [r3,hk]
 have r3no:∀ k,dom s2.hp k->r3 k=r2 k:=λk hk=>by
  have:k∉asd:=λhm=>hk (hna k hm).1
  simp [r3,this]
 have domF1:∀ k,k∈asd->dom (zbw asd s.hp s2.hp) k:=λk hk=>by
  have:=(has k hk).2
  unfold dom zbw at *;simpa [hk] using this
 have domF2:∀ k,dom s2.hp k->dom (zbw asd s.hp s2.hp) k:=λk hk=>by
  have h1:k∉asd:=λhm=>hk (hna k hm).1
  unfold dom zbw at *;simpa [h1] using hk
 have hpF1:∀ k b,zbw asd s.hp s2.hp k=some b->(k∈asd/\s.hp k=some b)\/(k∉asd/\s2.hp k=some b):=λk b hb=>by
  unfold zbw at hb
  by_cases h1:k∈asd
  ·simp only [h1,if_true] at hb;exact .inl ⟨h1,hb⟩
  ·simp only [h1,if_false] at hb;exact .inr ⟨h1,hb⟩
 have domF:∀ k,dom (zbw asd s.hp s2.hp) k->k∈asd\/(k∉asd/\dom s2.hp k):=λk hk=>by
  unfold dom at hk
  cases hb:zbw asd s.hp s2.hp k with
  | none=>exact absurd hb hk
  | some b=>exact (hpF1 k b hb).imp (λh=>h.1) (λh=>⟨h.1,by unfold dom;rw [h.2];simp⟩)
 refine ⟨⟨tsF,zbw asd s.hp s2.hp,s2.B,s.yc⟩,r3,hK,⟨⟨gi.ri.size,λu=>?_,λk b hk=>?_,λk l hk hl e=>?_,⟨So,m2,?_,λk hk=>hS2 k (hSo2 k hk),λi hd h1 hS=>?_,hdef2,λD hD=>⟨(hms2 D hD).1,λhS=>(hms2 D hD).2.1 (hSo2 D hS),(hms2 D hD).2.2⟩⟩,λi hd=>?_,λk hk=>?_,λk hk hd=>?_⟩,λx hx=>?_,gi.low,hi.flat,hi.rounds⟩⟩
 ·rcases hF u with h|⟨h,hid⟩
  ·rcases gi.ri.rel u with h3|h3
   ·exact .inl (h.trans ((hts2 u).symm.trans h3))
   ·rw [hts2 u] at h3
    exact .inr ⟨by
     have e1:a'.tmps.getD u undef=ren r3 (tsF u):=by rw [h,zcn r3no h3.2];exact h3.1
     exact e1,by
     have e2:zan (dom (zbw asd s.hp s2.hp)) (tsF u):=by rw [h];exact zce domF2 h3.2
     exact e2⟩
  ·rcases hi.ri.rel u with h3|h3
   ·exact .inl (h.trans h3)
   ·exact .inr ⟨by
     have e1:a'.tmps.getD u undef=ren r3 (tsF u):=by rw [h,htm,zcn r3as hid];exact h3.1
     exact e1,by
     have e2:zan (dom (zbw asd s.hp s2.hp)) (tsF u):=by rw [h];exact zce domF1 hid
     exact e2⟩
 ·rcases hpF1 k b hk with ⟨h1,h2⟩|⟨h1,h2⟩
  ·have hid:=hcl k h1 b h2
   have dQ:∀ q,q<100->dom C.G q->dom s2.hp q/\dom s.hp q:=λq h5 h6=>by
    have e1:s2.hp q=C.G q:=gi.ri.glob q h5
    have e2:s.hp q=C.G q:=hi.ri.glob q h5
    unfold dom at *
    rw [e1,e2]
    exact ⟨h6,h6⟩
   have r3Q:∀ q,(q∈asd\/(q<100/\dom C.G q))->r3 q=r q:=λq hq=>hq.elim (r3as q) λ⟨h5,h6⟩=>by
    obtain ⟨d2,d1⟩:=dQ q h5 h6
    rw [r3no q d2,gi.ri.low q h5 d2,hi.ri.low q h5 d1]
   refine ⟨?_,Blk.ids_mono (λq hq=>hq.elim (domF1 q) λ⟨h5,h6⟩=>domF2 q (dQ q h5 h6).1) hid⟩
   rw [r3as k h1,Blk.obj_congr r3Q hid,<-(hi.ri.sat k b h2).1]
   by_cases h3:k∈rs
   ·refine hkB k ?_
    show dom (rst hpR rs) k
    rw [erst]
    unfold dom rst;simp [h3,h2]
   ·exact (hA2 (r k) ⟨k,h1,h3,rfl⟩).2
  ·have hd:dom s2.hp k:=by unfold dom;rw [h2];simp
   have h3:=gi.ri.sat k b h2
   refine ⟨?_,Blk.ids_mono domF2 h3.2⟩
   rw [r3no k hd,Blk.obj_congr r3no h3.2]
   exact h3.1
 ·have mixed:∀ k l,k∈asd->l∉asd->dom s2.hp l->r k=r2 l->False:=λk l hk hl hd e=>by
   by_cases h3:k∈rs
   ·exact hnc l hd k h3 (has k hk).1 e.symm
   ·by_cases h1:100<=l
    ·exact hsep2 l hd h1 (e▸(hA2 (r k) ⟨k,hk,h3,rfl⟩).1)
    ·have e1:s2.hp l=C.G l:=gi.ri.glob l (by omega)
     have e2:s.hp l=C.G l:=hi.ri.glob l (by omega)
     have hd2:dom s.hp l:=by unfold dom at *;rw [e2,<-e1];exact hd
     have e3:r2 l=l:=gi.ri.low l (by omega) hd
     have e4:r l=l:=hi.ri.low l (by omega) hd2
     have:k=l:=hi.ri.inj k l (has k hk).2 hd2 (by rw [e,e3,e4])
     exact hl (this▸hk)
  rcases domF k hk with h1|⟨h1,hd1⟩<;>rcases domF l hl with h2|⟨h2,hd2⟩
  ·rw [r3as k h1,r3as l h2] at e
   exact hi.ri.inj k l (has k h1).2 (has l h2).2 e
  ·rw [r3as k h1,r3no l hd2] at e
   exact (mixed k l h1 h2 hd2 e).elim
  ·rw [r3no k hd1,r3as l h2] at e
   exact (mixed l k h2 h1 hd1 e.symm).elim
  ·rw [r3no k hd1,r3no l hd2] at e
   exact gi.ri.inj k l hd1 hd2 e
 ·have:E'.X s2.yc S2 W':=⟨hX2,hSo2,hA2⟩
  show C.E.X s.yc So W'
  rw [<-hyc];exact hX2
 ·rcases domF i hd with h2|⟨h2,hd2⟩
  ·rw [r3as i h2] at hS;exact hsep i (has i h2).2 h1 hS
  ·rw [r3no i hd2] at hS;exact hsep2 i hd2 h1 (hSo2 _ hS)
 ·by_cases h1:i∈asd
  ·exact ⟨domF1 i h1,(r3as i h1).trans (hi.ri.keep i hd).2⟩
  ·have hd':dom C'.hp0 i:=by
    show (if i∈asd then none else C.hp0 i)≠none
    rw [if_neg h1];exact hd
   have hk:dom s2.hp i/\r2 i=C.r0 i:=gi.ri.keep i hd'
   exact ⟨domF2 i hk.1,(r3no i hk.1).trans hk.2⟩
 ·have h1:=hA100 k hk
  show zbw asd s.hp s2.hp k=C.G k
  unfold zbw;rw [if_neg h1];exact gi.ri.glob k hk
 ·have h1:=hA100 k hk
  rcases domF k hd with h2|⟨_,hd2⟩
  ·exact absurd h2 h1
  ·rw [r3no k hd2];exact gi.ri.low k hk hd2
 ·have hx:s2.B<=x:=hx
  have h1:x∉asd:=λhm=>by have:=(hna x hm).2;omega
  show zbw asd s.hp s2.hp x=none
  unfold zbw;rw [if_neg h1];exact gi.free x hx
theorem zrw {t:Tmp} {ps:Array Tmp} {assign body:Code} {f:FuncId} {caps:Array Value} {rs:List Nat} {xs:List (Array Value)} (asd:List Nat) (hY:C.Y=none) (hg:s.ts t=.func (.func f) #[] caps) (hit:IterK P C.G f caps s.hp rs xs)
  (hxs:∀ x∈xs,x.size=ps.size/\∀ v∈x,zau v=true) (hps:∀ p∈ps,p<n) (tsE tsF:Nat->Value) (I:Nat->Hp->Prop) {hpS:Hp} (B:Nat) (N:Nat) (hN:N<=xs.length)
  (hras:∀ k∈rs,k∈asd) (has:∀ k∈asd,100<=k/\dom s.hp k) (hcl:∀ k∈asd,∀ b,s.hp k=some b->b.ids λq=>q∈asd\/(q<100/\dom C.G q))
  (hw:∀ C0:Ctx,C0.G=C.G->(C0.hp0=λk=>if k∈asd then none else C.hp0 k)->Weak C0 s ⟨tsE,hpS,B,s.yc⟩) (h0:I 0 hpS) (hnS:∀ k∈asd,hpS k=none)
  (hF:∀ u,tsF u=tsE u\/(tsF u=s.ts u/\zan (λq=>q∈asd) (s.ts u)))
  (rounds:∀ i x hq,i<N->xs[i]? = some x->I i hq->∀ (C1:Ctx) (l:Nat),C1.G=C.G->C1.hp0=hq->C1.Y=none->GW P C1 n [] (some l) assign ⟨zao ps.toList x.toList tsE,hq,B,0⟩
   (zbo (λs1=>∀ C2:Ctx,C2.G=C.G->C2.hp0=hq->C2.Y=none->GW P C2 n [] (some l) body s1 (zbo (λs2=>∃ ρ hq',(∀ C0:Ctx,C0.G=C.G->(C0.hp0=λk=>if k∈asd then none else C.hp0 k)->WeakR C0 ρ ⟨tsE,s2.hp,s2.B,s.yc⟩ ⟨tsE,hq',B,s.yc⟩)/\I (i+1) hq') (λ_ _=>False))) (λ_ _=>False)))
  (fin:(N=xs.length/\∀ hq,I N hq->(∀ k∈asd,hq k=none/\k<B)/\K .normal ⟨tsF,zbw asd s.hp hq,B,s.yc⟩)\/∃ x,xs[N]? = some x/\∀ hq,I N hq->∀ (C1:Ctx) (l:Nat),C1.G=C.G->C1.hp0=hq->C1.Y=none->GW P C1 n [] (some l) assign ⟨zao ps.toList x.toList tsE,hq,B,0⟩
    (zbo (λs1=>∀ C2:Ctx,C2.G=C.G->C2.hp0=hq->C2.Y=none->GW P C2 n [] (some l) body s1 (λe s2=>(zbc e).isSome=true/\(∀ t,zan (dom s2.hp) (tsE t))/\(∀ k∈asd,s2.hp k=none/\k<s2.B)/\K e ⟨tsF,zbw asd s.hp s2.hp,s2.B,s.yc⟩)) (λ_ _=>False))) :
  GW P C n d none (.rangeFunc (.tmp t) ps assign body) s K :=
 zj5 asd hY hg hit hxs hps tsE tsF I B N hN hras has hcl hw h0 hnS hF (λi x hq h1 h2 h3 C1 l h4 h5 h6=>zb2 (rounds i x hq h1 h2 h3 C1 l h4 h5 h6) λe s1 h=>by
   cases e<;>first|exact λC2 k1 k2 k3 _=>h C2 k1 k2 k3|exact h)
  (fin.imp id λ⟨x,hx,h⟩=>⟨x,hx,λhq h3 C1 l h4 h5 h6=>zb2 (h hq h3 C1 l h4 h5 h6) λe s1 h=>by
   cases e<;>first|exact λC2 k1 k2 k3 _=>h C2 k1 k2 k3|exact h⟩)
theorem zmu {t:Tmp} {ps:Array Tmp} {assign body:Code} {f:FuncId} {caps:Array Value} {rs:List Nat} {xs:List (Array Value)} (asd:List Nat) (hY:C.Y=none) (hg:s.ts t=.func (.func f) #[] caps) (hit:IterK P C.G f caps s.hp rs xs)
  (hxs:∀ x∈xs,x.size=ps.size/\∀ v∈x,zau v=true) (hps:∀ p∈ps,p<n) (tsE tsF:Nat->Value) (I:Nat->Hp->Prop) {hpS:Hp} (B:Nat) (N:Nat) (hN:N<=xs.length)
  (hras:∀ k∈rs,k∈asd) (has:∀ k∈asd,100<=k/\dom s.hp k) (hcl:∀ k∈asd,∀ b,s.hp k=some b->b.ids λq=>q∈asd)
  (hw:∀ C0:Ctx,C0.G=C.G->(C0.hp0=λk=>if k∈asd then none else C.hp0 k)->Weak C0 s ⟨tsE,hpS,B,s.yc⟩) (h0:I 0 hpS) (hnS:∀ k∈asd,hpS k=none)
  (hF:∀ u,tsF u=tsE u\/(tsF u=s.ts u/\zan (λq=>q∈asd) (s.ts u)))
  (rounds:∀ i x hq,i<N->xs[i]? = some x->I i hq->∀ (C1:Ctx) (l:Nat),C1.G=C.G->C1.hp0=hq->C1.Y=none->GW P C1 n [] (some l) assign ⟨zao ps.toList x.toList tsE,hq,B,0⟩
   (zbo (λs1=>∀ C2:Ctx,C2.G=C.G->C2.hp0=hq->C2.Y=none->GW P C2 n [] (some l) body s1 (zbo (λs2=>∃ ρ hq',(∀ C0:Ctx,C0.G=C.G->(C0.hp0=λk=>if k∈asd then none else C.hp0 k)->WeakR C0 ρ ⟨tsE,s2.hp,s2.B,s.yc⟩ ⟨tsE,hq',B,s.yc⟩)/\I (i+1) hq') (λ_ _=>False))) (λ_ _=>False)))
  (fin:(N=xs.length/\∀ hq,I N hq->(∀ k∈asd,hq k=none/\k<B)/\K .normal ⟨tsF,zbw asd s.hp hq,B,s.yc⟩)\/∃ x,xs[N]? = some x/\∀ hq,I N hq->∀ (C1:Ctx) (l:Nat),C1.G=C.G->C1.hp0=hq->C1.Y=none->GW P C1 n [] (some l) assign ⟨zao ps.toList x.toList tsE,hq,B,0⟩
    (zbo (λs1=>∀ C2:Ctx,C2.G=C.G->C2.hp0=hq->C2.Y=none->GW P C2 n [] (some l) body s1 (λe s2=>(zbc e).isSome=true/\(∀ t,zan (dom s2.hp) (tsE t))/\(∀ k∈asd,s2.hp k=none/\k<s2.B)/\K e ⟨tsF,zbw asd s.hp s2.hp,s2.B,s.yc⟩)) (λ_ _=>False))) :
  GW P C n d none (.rangeFunc (.tmp t) ps assign body) s K:=by
 refine zrw (f:=f) (rs:=rs) (xs:=xs) (caps:=caps) asd hY hg hit hxs hps tsE tsF I B N hN hras has (λk hk b hb=>Blk.ids_mono (λq hq=>.inl hq) (hcl k hk b hb)) hw h0 hnS hF rounds fin
section
variable {P:Program} {G:Hp}
theorem IterK.rn {f:FuncId} {caps:Array Value} {hp hp':Hp} {rs:List Nat} {xs:List (Array Value)} (ρ:Nat->Nat) (hGF:zbg G) (hG:∀ k,k<100->hp k=G k) (h:Rn ρ hp hp' rs) (hi:IterK P G f caps hp rs xs):IterK P G f (caps.map (zam ρ)) hp' (rs.map ρ) xs:=by
 have hpl:∀ x,zbj x=true->zbj (zam ρ x)=true:=λx hx=>by
  cases x with
  | pointer p=>cases p<;>rfl
  | slice p _ _=>cases p<;>rfl
  | map p=>cases p<;>rfl
  | _=>exact hx
 have bflat:∀ k b,k<100->hp k=some b->b.rn ρ=b:=λk b hk hb=>by
  have hg:G k=some b:=(hG k hk).symm.trans hb
  exact Blk.rn_flat (hGF k b hg).2
 have back:∀ k b,rst hp' (rs.map ρ) k=some b->∃ q c,rst hp rs q=some c/\ρ q=k/\b=c.rn ρ:=λk b hb=>by
  unfold rst at hb
  by_cases h1:k<100
  ·simp only [h1,true_or,if_true] at hb
   have hl:=h.low k h1
   rw [hl.2] at hb
   exact ⟨k,b,by simp [rst,h1,hb],hl.1,(bflat k b h1 hb).symm⟩
  ·by_cases hm:k∈rs.map ρ
   ·obtain ⟨q,hq,rfl⟩:=List.mem_map.1 hm
    simp only [hm,or_true,if_true] at hb
    have hq1:100<=q:=by
     by_cases hq1:100<=q
     ·exact hq1
     ·exact absurd (by rw [(h.low q (by omega)).1];omega) h1
    obtain ⟨c,e1,e2⟩:=h.at' q hq hq1
    rw [e2] at hb;cases hb
    exact ⟨q,c,by simp [rst,hq,e1],rfl,rfl⟩
   ·simp [h1,hm] at hb
 refine ⟨hi.enter,λx hx=>?_,λk b hb=>?_,λE l stop r S W hgok hsat hinj hlow hR hX hS hdis=>?_⟩
 ·obtain ⟨y,hy,rfl⟩:=Array.mem_map.1 hx
  have:=hi.cids y hy
  exact ⟨hpl y this.1,(zbs (hpl y this.1)).2 (zh0 (λk hk=>h.dom1 hk) ((zbs this.1).1 this.2))⟩
 ·obtain ⟨q,c,h1,rfl,rfl⟩:=back k b hb
  exact Blk.ids_rn (λk hk=>h.dom1 hk) (hi.closed q c h1)
 ·have hcap:(caps.map (zam ρ)).map (ren r)=caps.map (ren λk=>r (ρ k)):=by
   rw [Array.map_map]
   refine Array.map_congr_left λx hx=>?_
   have:=(hi.cids x hx).1
   simp only [Function.comp]
   rw [<-zb5 (r:=ρ) this,zcc]
  rw [hcap]
  refine (hi.run E l stop (λk=>r (ρ k)) S W hgok (λk b hk=>⟨?_,hi.closed k b hk⟩) (λk l hk hl e=>?_) (λk hk hd=>?_) hR hX hS (λi hd h1=>?_)).mono (λ_ _ hh=>⟨hh.1,hh.2.1,λk hk=>?_⟩)
  ·have hd:dom (rst hp rs) k:=by unfold dom;rw [hk];simp
   have hd':=h.dom1 hd
   unfold dom at hd'
   cases hb:rst hp' (rs.map ρ) (ρ k) with
   | none=>exact absurd hb hd'
   | some b' =>
    have e:b'=b.rn ρ:=by
     unfold rst at hb hk
     by_cases h1:k<100
     ·have hl:=h.low k h1
      simp only [h1,true_or,if_true] at hk
      rw [hl.1] at hb
      simp only [h1,true_or,if_true] at hb
      rw [hl.2,hk] at hb
      cases hb
      exact (bflat k b h1 hk).symm
     ·have hm:k∈rs:=by
       by_cases hm:k∈rs
       ·exact hm
       ·simp [h1,hm] at hk
      simp only [hm,or_true,if_true] at hk
      obtain ⟨c,e1,e2⟩:=h.at' k hm (by omega)
      rw [hk] at e1;cases e1
      have hm':ρ k∈rs.map ρ:=List.mem_map.2 ⟨k,hm,rfl⟩
      simp only [hm',or_true,if_true] at hb
      rw [e2] at hb;cases hb;rfl
    have:=(hsat _ b' hb).1
    rw [e,Blk.rn_obj] at this
    exact this
  ·have e2:=hinj _ _ (h.dom1 hk) (h.dom1 hl) e
   have mem:∀ k,dom (rst hp rs) k->100<=k->k∈rs:=λk hk h1=>by
    unfold dom rst at hk
    by_cases hm:k∈rs
    ·exact hm
    ·simp [hm] at hk;omega
   by_cases h1:k<100
   ·by_cases h2:l<100
    ·rw [(h.low k h1).1,(h.low l h2).1] at e2;exact e2
    ·have:=h.big l (mem l hl (by omega)) (by omega)
     rw [(h.low k h1).1] at e2;omega
   ·by_cases h2:l<100
    ·have:=h.big k (mem k hk (by omega)) (by omega)
     rw [(h.low l h2).1] at e2;omega
    ·exact h.inj k (mem k hk (by omega)) l (mem l hl (by omega)) (by omega) (by omega) e2
  ·show r (ρ k)=k
   have:=h.dom1 hd
   rw [(h.low k hk).1] at this |-
   exact hlow k hk this
  ·refine hdis _ (h.dom1 hd) (h.big i ?_ h1)
   unfold dom rst at hd
   by_cases hm:i∈rs
   ·exact hm
   ·simp [hm] at hd;omega
  ·unfold dom at hk
   cases hb:rst hp' (rs.map ρ) k with
   | none=>exact absurd hb hk
   | some b =>
    obtain ⟨q,c,h1,h2,_⟩:=back k b hb
    rw [<-h2]
    exact hh.2.2 q (by unfold dom;rw [h1];simp)
end
end
def Blk.fx (b:Blk):Prop:=match b.T with
 | .ty _=>∀ x∈b.c,za9 x=true
 | .raw _ _=>True
 | .mp=>False
theorem Blk.fx_ids {b:Blk} (h:b.fx) (D:Nat->Prop):b.ids D:=by
 obtain ⟨c,T⟩:=b
 cases T with
 | ty t=>exact Blk.flat_ids (b:=⟨c,.ty t⟩) h
 | raw t fr=>trivial
 | mp=>exact h.elim
theorem Blk.fx_rd {b:Blk} (h:b.fx):b.T.rd=true:=by
 obtain ⟨c,T⟩:=b
 cases T with
 | ty t=>rfl
 | raw t fr=>rfl
 | mp=>exact h.elim
theorem Blk.fx_rn {b:Blk} (h:b.fx) (ρ:Nat->Nat):b.rn ρ=b:=by
 obtain ⟨c,T⟩:=b
 cases T with
 | ty t=>exact Blk.rn_flat (b:=⟨c,.ty t⟩) h
 | raw t fr=>rfl
 | mp=>exact h.elim
theorem zqr {cs:Array Value} (h:∀ x∈cs,za9 x=true) (ρ:Nat->Nat):cs.map (zaj ρ)=cs:=by
 have:=Blk.rn_flat (ρ:=ρ) (b:=⟨cs,.ty 0⟩) h
 simpa [Blk.rn] using this
section
variable {P:Program} {G:Hp}
structure LOk (m:List (Nat×Blk)) (B:Nat):Prop where
 big:∀ p∈m,100<=p.1/\p.1<B
 one:(zab m).Nodup
 ids:∀ p∈m,p.2.ids λk=>k∈zab m
theorem LOk.at {m:List (Nat×Blk)} (hn:(zab m).Nodup):∀ p∈m,hpL G m p.1=some p.2:=by
 induction m with
 | nil=>intro p hp;cases hp
 | cons q m ih =>
  obtain ⟨k,b⟩:=q
  intro p hp
  simp only [zab,List.map_cons,List.nodup_cons] at hn
  rw [zag]
  rcases List.mem_cons.1 hp with rfl|hp
  ·simp
  ·have hne:¬p.1=k:=λe=>hn.1 (by rw [<-e];exact List.mem_map.2 ⟨p,hp,rfl⟩)
   rw [if_neg hne]
   exact ih hn.2 p hp
theorem LOk.low {m:List (Nat×Blk)} {B:Nat} (h:LOk m B):∀ k,k<100->hpL G m k=G k:=λ_ hk=>za7 (λp hp=>(h.big p hp).1) hk
theorem LOk.rst {m:List (Nat×Blk)} (hGF:zbg G):rst (hpL G m) (zab m)=hpL G m:=zfs hGF λp hp=>zad.2 ⟨p,hp,rfl⟩
theorem LOk.sub {m:List (Nat×Blk)} {B:Nat} (h:LOk m B) (k:Nat) (hk:k∈zab m):dom (hpL G m) k:=by
 obtain ⟨p,hp,rfl⟩:=zad.1 hk
 unfold dom;rw [LOk.at h.one p hp];simp
theorem LOk.closed {m:List (Nat×Blk)} {B:Nat} (hGF:zbg G) (h:LOk m B) (k:Nat) (b:Blk) (hk:hpL G m k=some b):b.ids (dom (hpL G m)):=by
 rcases za5 hk with h1|h1
 ·exact Blk.ids_mono (λq hq=>h.sub q hq) (h.ids (k,b) h1)
 ·exact Blk.flat_ids (hGF k b h1).2
theorem LOk.free {m:List (Nat×Blk)} {B:Nat} (hGF:zbg G) (hB:100<=B) (h:LOk m B) (x:Nat) (hx:B<=x):hpL G m x=none:=by
 cases hb:hpL G m x with
 | none=>rfl
 | some b =>
  rcases za5 hb with h1|h1
  ·have:=(h.big _ h1).2;simp at this;omega
  ·have:=(hGF x b h1).1;omega
theorem zaz {f:FuncId} {fn:Func} {c:Code} {args:Array Value} {m:List (Nat×Blk)} {v:Value} {ws:List (Nat×Blk)} {B:Nat} (hGF:zbg G) (hf:P.funcs[f]? = some fn) (hb:fn.body=some c) (hcall:∀ a w,(callFunc f a).run P w=.ok (.enter f a) w)
  (hm:LOk m B) (ha:∀ x∈args,zan (λk=>k∈zab m) x) (hv:zan (λk=>k∈zab m) v) (hw:∀ p∈ws,p.1∈zab m/\p.2.ids (λk=>k∈zab m)) (hw1:∀ k b c,(k,b)∈ws->(k,c)∈ws->b=c) (hn:args.size<=fn.ntmps) (hB:100<=B)
  (h:∀ C:Ctx,C.G=G->C.hp0=hpL G m->C.Y=none->GW P C fn.ntmps [] none c ⟨λt=>args.getD t undef,hpL G m,B,0⟩ (jlj P fn (hpL G m) (.ret v ws))):Fun P G f args (hpL G m) (zab m) (.ret v ws):=by
 have e:=LOk.rst (m:=m) hGF
 refine zjd (B:=B) hGF hm.low hf hb hcall (by rw [e];exact λx hx=>zce (λq hq=>hm.sub q hq) (ha x hx)) (by rw [e];exact hm.closed hGF) ⟨by rw [e];exact zce (λq hq=>hm.sub q hq) hv,λk hk=>?_,hw1,λp hp=>?_⟩ hn hB (by rw [e];exact hm.free hGF hB) (by rw [e];exact h)
 ·obtain ⟨p,hp,rfl⟩:=zad.1 hk
  have:=(hw p hp).1
  obtain ⟨q,hq,e1⟩:=zad.1 this
  exact ⟨this,hm.sub _ this,by rw [<-e1];exact (hm.big q hq).1⟩
 ·rw [e];exact Blk.ids_mono (λq hq=>hm.sub q hq) (hw p hp).2
theorem zc7 {f:FuncId} {fn:Func} {c:Code} {caps:Array Value} {m:List (Nat×Blk)} {xs:List (Array Value)} {B:Nat} {v:Value} (hGF:zbg G) (hf:P.funcs[f]? = some fn) (hb:fn.body=some c) (hcall:∀ a w,(callFunc f a).run P w=.ok (.enter f a) w)
  (hm:LOk m B) (ha:∀ x∈caps,zbj x=true/\zan (λk=>k∈zab m) x) (hn:caps.size+1<=fn.ntmps) (hB:100<=B)
  (h:∀ (C:Ctx) (l stop:Nat),C.G=G->C.hp0=hpL G m->C.Y=some ⟨l,xs,stop,none,none⟩->GW P C fn.ntmps [] none c ⟨λt=>(#[Value.func (.yield l) #[] #[]]++caps).getD t undef,hpL G m,B,0⟩
   (λe s=>(e=.normal\/e=.ret)/\zmq P fn.results.toList s.ts s.hp=some v/\s.yc=min (stop+1) xs.length/\∀ k,dom (hpL G m) k->s.hp k=hpL G m k)):IterK P G f caps (hpL G m) (zab m) xs:=by
 have e:=LOk.rst (m:=m) hGF
 exact z0d (B:=B) (v:=v) hGF hm.low hf hb hcall (by rw [e];exact λx hx=>⟨(ha x hx).1,zce (λq hq=>hm.sub q hq) (ha x hx).2⟩) (by rw [e];exact hm.closed hGF) hn hB (by rw [e];exact hm.free hGF hB) (by rw [e];exact h)
theorem zei {f:FuncId} {fn:Func} {c:Code} {args:Array Value} {m:List (Nat×Blk)} {R:Value->List (Nat×Blk)->Prop} {B:Nat} (hGF:zbg G) (hf:P.funcs[f]? = some fn) (hb:fn.body=some c) (hcall:∀ a w,(callFunc f a).run P w=.ok (.enter f a) w)
  (hm:LOk m B) (ha:∀ x∈args,zan (λk=>k∈zab m) x)
  (hfit:∀ v ns,R v ns->zan (zcu (λk=>k∈zab m) ns) v/\(∀ p∈ns,B<=p.1/\p.2.ids (zcu (λk=>k∈zab m) ns))/\(∀ k b c,(k,b)∈ns->(k,c)∈ns->b=c))
  (hn:args.size<=fn.ntmps) (hB:100<=B)
  (h:∀ C:Ctx,C.G=G->C.hp0=hpL G m->C.Y=none->GW P C fn.ntmps [] none c ⟨λt=>args.getD t undef,hpL G m,B,0⟩ λe s=>(e=.normal\/e=.ret)/\(∀ k,dom (hpL G m) k->s.hp k=hpL G m k) /\
   ∃ v ns ρ,R v ns/\(∀ k,k<B->ρ k=k)/\(∀ p∈ns,B<=ρ p.1)/\(∀ p∈ns,∀ q∈ns,ρ p.1=ρ q.1->p.1=q.1)/\zmq P fn.results.toList s.ts s.hp=some (ren ρ v)/\∀ p∈ns,s.hp (ρ p.1)=some (p.2.rn ρ)):FunS P G f args (hpL G m) (zab m) R:=by
 have e:=LOk.rst (m:=m) hGF
 have hlt:∀ k,dom (hpL G m) k->k<B:=λk hk=>by
  refine Classical.byContradiction λh1=>hk (hm.free hGF hB k (by omega))
 have ext:∀ ns k,zcu (λk=>k∈zab m) ns k->zcu (dom (hpL G m)) ns k:=λns k hk=>hk.imp (λh1=>hm.sub k h1) id
 refine z6c (B:=B) hGF hm.low hf hb hcall (by rw [e];exact λx hx=>zce (λq hq=>hm.sub q hq) (ha x hx)) (by rw [e];exact hm.closed hGF) (λv ns hR=>?_) hn hB (by rw [e];exact hm.free hGF hB) (λC h1 h2 h3=>?_)
 ·rw [e]
  obtain ⟨f1,f2,f3⟩:=hfit v ns hR
  refine ⟨zce (ext ns) f1,λk hk=>?_,f3,λp hp=>Blk.ids_mono (ext ns) (f2 p hp).2⟩
  obtain ⟨p,hp,rfl⟩:=zad.1 hk
  have:=(f2 p hp).1
  exact ⟨by omega,λhd=>by have:=hlt _ hd;omega⟩
 ·rw [e] at h2 |-
  refine zb2 (h C h1 h2 h3) λe s=>λ⟨q1,q2,v,ns,ρ,q3,q4,q5,q6,q7,q8⟩=>⟨q1,q2,v,ns,ρ,q3,λk hk=>q4 k (hlt k hk),λp hp=>?_,q6,q7,q8⟩
  have:=q5 p hp
  exact ⟨λhd=>by have:=hlt _ hd;omega,by omega⟩
theorem zbz {m:List (Nat×Blk)} (hGF:zbg G) {hp:Hp} (h1:∀ p∈m,hp p.1=hpL G m p.1) (h2:∀ k,k<100->hp k=hpL G m k):∀ k,dom (hpL G m) k->hp k=hpL G m k:=λk hk=>by
 unfold dom at hk
 cases hb:hpL G m k with
 | none=>exact absurd hb hk
 | some b =>
  rw [<-hb]
  rcases za5 hb with h|h
  ·exact h1 _ h
  ·exact h2 k (hGF k b h).1
theorem zod {m:List (Nat×Blk)} {B:Nat} (hm:LOk m B) (ρ:Nat->Nat) (hlow:∀ k,k<100->ρ k=k) {hp:Hp} (hp0:∀ k,k<100->hp k=G k) (hat:∀ p∈m,100<=ρ p.1/\hp (ρ p.1)=some (p.2.rn ρ)) (hinj:∀ k∈zab m,∀ l∈zab m,ρ k=ρ l->k=l):Rn ρ (hpL G m) hp (zab m):=by
 refine ⟨λk hk=>⟨hlow k hk,by rw [hp0 k hk,hm.low k hk]⟩,λk hk _=>?_,λk hk _=>?_,λk hk l hl _ _ e=>?_⟩
 ·obtain ⟨p,hp,rfl⟩:=zad.1 hk
  exact (hat p hp).1
 ·obtain ⟨p,hp,rfl⟩:=zad.1 hk
  exact ⟨p.2,LOk.at hm.one p hp,(hat p hp).2⟩
 ·exact hinj k hk l hl e
theorem zvp {f:FuncId} {args args':Array Value} {m ws:List (Nat×Blk)} {B:Nat} {v:Value} {hp:Hp} {nk:Nat} {K:Eff->Prop} (h:Fun P G f args (hpL G m) (zab m) (.ret v ws)) (hGF:zbg G) (hm:LOk m B) (ρ:Nat->Nat) (hlow:∀ k,k<100->ρ k=k) (ea:args.map (ren ρ)=args')
  (hat:∀ p∈m,100<=ρ p.1/\hp (ρ p.1)=some (p.2.rn ρ)) (hinj:∀ k∈zab m,∀ l∈zab m,ρ k=ρ l->k=l) (hK:K ((Res.ret (ren ρ v) (rnL ρ ws)).eff ((zab m).map ρ))):zhz P G f args' hp nk K:=by
 let hp':Hp:=λk=>if k<100 then G k else hp k
 have h1:Rn ρ (hpL G m) hp' (zab m):=zod hm ρ hlow (λk hk=>by simp [hp',hk]) (λp hp1=>⟨(hat p hp1).1,by
  show (if ρ p.1<100 then G (ρ p.1) else hp (ρ p.1))=_
  have:=(hat p hp1).1
  rw [if_neg (by omega)];exact (hat p hp1).2⟩) hinj
 subst ea
 refine zb7 (h.rn ρ hGF hm.low h1) (λk hk=>?_) (λk hk=>by simp [hp',hk]) (by exact trivial) hK
 obtain ⟨q,hq,rfl⟩:=List.mem_map.1 hk
 obtain ⟨p,hp1,rfl⟩:=zad.1 hq
 show (if ρ p.1<100 then G (ρ p.1) else hp (ρ p.1))=_
 have:=(hat p hp1).1
 rw [if_neg (by omega)]
theorem zae {f:FuncId} {args args':Array Value} {m:List (Nat×Blk)} {B:Nat} {v:Value} {hp:Hp} {nk:Nat} {K:Eff->Prop} (h:Fun P G f args (hpL G m) (zab m) (.ret v [])) (hGF:zbg G) (hm:LOk m B) (ρ:Nat->Nat) (hlow:∀ k,k<100->ρ k=k) (ea:args.map (ren ρ)=args') (hv:zau v=true)
  (hat:∀ p∈m,100<=ρ p.1/\hp (ρ p.1)=some (p.2.rn ρ)) (hinj:∀ k∈zab m,∀ l∈zab m,ρ k=ρ l->k=l) {rs:List Nat} (er:(zab m).map ρ=rs) (hK:K ((Res.ret v []).eff rs)):zhz P G f args' hp nk K :=
 zvp h hGF hm ρ hlow ea hat hinj (by rw [zap hv,er];exact hK)
theorem zef {f:FuncId} {caps caps':Array Value} {m:List (Nat×Blk)} {B:Nat} {xs:List (Array Value)} {hp:Hp} {rs:List Nat} (h:IterK P G f caps (hpL G m) (zab m) xs) (hGF:zbg G) (hm:LOk m B) (ρ:Nat->Nat) (hlow:∀ k,k<100->ρ k=k) (ea:caps.map (zam ρ)=caps') (er:(zab m).map ρ=rs)
  (hp0:∀ k,k<100->hp k=G k) (hat:∀ p∈m,100<=ρ p.1/\hp (ρ p.1)=some (p.2.rn ρ)) (hinj:∀ k∈zab m,∀ l∈zab m,ρ k=ρ l->k=l):IterK P G f caps' hp rs xs:=by
 subst ea er
 exact h.rn ρ hGF hm.low (zod hm ρ hlow hp0 hat hinj)
end
section
variable {P:Program} {C:Ctx} {n:Nat} {d:List Deferred} {s:GS} {K:Exit->GS->Prop} {G:Hp}
theorem zw0 (v:Value):zay (λk=>k) v=v:=by
 cases v with
 | agg cs=>simp only [zay];rw [Array.map_congr_left (λx _=>zjk x)];simp
 | _=>unfold zay;exact zjk _
theorem z3m (v:Value):ren (λk=>k) v=v:=by
 cases v with
 | tuple cs=>simp only [ren];rw [Array.map_congr_left (λx _=>zw0 x)];simp
 | _=>unfold ren;exact zw0 _
theorem Blk.rn_id (b:Blk):b.rn (λk=>k)=b:=by
 obtain ⟨c,T⟩:=b
 cases T with
 | ty t=>simp only [Blk.rn];rw [Array.map_congr_left (λx _=>zjk x)];simp
 | raw t fr=>rfl
 | mp=>simp only [Blk.rn];rw [Array.map_congr_left (λx _=>zjk x)];simp
theorem z7h {l l2:List (Nat×Value)} {u:Nat}:tsL (l++l2) u=tsL l u\/(u,tsL (l++l2) u)∈l2:=by
 induction l with
 | nil =>
  rcases zdv (l:=l2) (t:=u) with h|h
  ·exact .inl h
  ·exact .inr h
 | cons p l ih =>
  obtain ⟨k,v⟩:=p
  rw [List.cons_append,zmf,zmf]
  by_cases h:u=k
  ·left;rw [if_pos h,if_pos h]
  ·rw [if_neg h,if_neg h];exact ih
theorem zgp {t:Tmp} {ps:Array Tmp} {assign body:Code} {f:FuncId} {caps:Array Value} {rs:List Nat} {xs:List (Array Value)} {m0:List (Nat×Blk)} (asd:List Nat) (hGF:zbg G) (hG:C.G=G) (h0:C.hp0=hpL G m0) (hY:C.Y=none) (hg:s.ts t=.func (.func f) #[] caps) (hit:IterK P G f caps s.hp rs xs)
  (hxs:∀ x∈xs,x.size=ps.size/\∀ v∈x,zau v=true) (hps:∀ p∈ps,p<n) (l l2:List (Nat×Value)) (m:Nat->List (Nat×Blk)) (B:Nat) (N:Nat) (hN:N<=xs.length) (hB:100<=B)
  (hras:∀ k∈rs,k∈asd) (has:∀ k∈asd,100<=k/\dom s.hp k/\k<B) (hcl:∀ k∈asd,∀ b,s.hp k=some b->b.ids λq=>q∈asd)
  (hl:∀ p∈l,s.ts p.1=p.2) (hl2:∀ p∈l2,s.ts p.1=p.2/\zan (λq=>q∈asd) p.2)
  (hm0:∀ p∈m 0,s.hp p.1=some p.2) (hm:∀ i,i<=N->(∀ p∈l,zan (dom (hpL G (m i))) p.2)/\∀ p∈m i,100<=p.1/\p.1<B/\p.1∉asd/\p.2.ids (dom (hpL G (m i))))
  (hk:∀ p∈m0,p.1∈asd\/(100<=p.1/\hpL G (m 0) p.1=s.hp p.1/\∀ i,i<=N->dom (hpL G (m i)) p.1))
  (rounds:∀ i x,i<N->xs[i]? = some x->∀ (C1:Ctx) (j:Nat),C1.G=G->C1.hp0=hpL G (m i)->C1.Y=none->GW P C1 n [] (some j) assign ⟨zao ps.toList x.toList (tsL l),hpL G (m i),B,0⟩
   (zbo (λs1=>∀ C2:Ctx,C2.G=G->C2.hp0=hpL G (m i)->C2.Y=none->zfg C2 j->GW P C2 n [] (some j) body s1 (zbo (λs2=>∀ p∈m (i+1),s2.hp p.1=some p.2) (λ_ _=>False))) (λ_ _=>False)))
  (fin:(N=xs.length/\K .normal ⟨tsL (l++l2),zbw asd s.hp (hpL G (m N)),B,s.yc⟩)\/∃ x,xs[N]? = some x/\∀ (C1:Ctx) (j:Nat),C1.G=G->C1.hp0=hpL G (m N)->C1.Y=none->GW P C1 n [] (some j) assign ⟨zao ps.toList x.toList (tsL l),hpL G (m N),B,0⟩
    (zbo (λs1=>∀ C2:Ctx,C2.G=G->C2.hp0=hpL G (m N)->C2.Y=none->zfg C2 j->GW P C2 n [] (some j) body s1 (λe s2=>(zbc e).isSome=true/\(∀ p∈l,zan (dom s2.hp) p.2)/\(∀ k∈asd,s2.hp k=none/\k<s2.B)/\K e ⟨tsL (l++l2),zbw asd s.hp s2.hp,s2.B,s.yc⟩)) (λ_ _=>False))) :
  GW P C n d none (.rangeFunc (.tmp t) ps assign body) s K:=by
 have asn:∀ i,i<=N->∀ k∈asd,hpL G (m i) k=none:=λi hi k hk1=>by
  cases hb:hpL G (m i) k with
  | none=>rfl
  | some b =>
   rcases za5 hb with h|h
   ·exact absurd hk1 ((hm i hi).2 _ h).2.2.1
   ·have:=(hGF k b h).1;have:=(has k hk1).1;omega
 have keepW:∀ i,i<=N->∀ C0:Ctx,C0.G=C.G->(C0.hp0=λk=>if k∈asd then none else C.hp0 k)->∀ s2:GS,s2.yc=s.yc->(∀ p∈m i,s2.hp p.1=some p.2)->s2.ts=tsL l->WeakR C0 (λk=>k) s2 ⟨tsL l,hpL G (m i),B,s.yc⟩:=λi hi C0 c1 c2 s2 hyc hs ht=>by
  refine ⟨λu=>?_,λk b hb h1=>⟨?_,h1⟩,λk b hb=>?_,λk q _ _ e=>e,λ_ _=>rfl,λk b _ _=>Blk.rn_id b,λk h1 hd=>⟨?_,rfl⟩,λk h1=>?_,hyc.symm,λx hx=>?_,hB⟩
  ·rcases zdv (l:=l) (t:=u) with h|h
   ·exact .inl h
   ·by_cases hj:tsL l u=zcj
    ·exact .inl hj
    ·exact .inr ⟨by rw [ht,z3m],by rw [ht];exact hj,(hm i hi).1 _ h⟩
  ·rw [Blk.rn_id]
   rcases za5 hb with h|h
   ·exact hs _ h
   ·have:=(hGF k b h).1;omega
  ·rcases za5 hb with h|h
   ·exact ((hm i hi).2 _ h).2.2.2
   ·exact Blk.flat_ids (hGF k b h).2
  ·have hna:k∉asd:=λhm1=>by
    have h2:C0.hp0 k≠none:=hd
    rw [c2] at h2;exact h2 (if_pos hm1)
   have h2:C0.hp0 k≠none:=hd
   rw [c2] at h2
   simp only [if_neg hna] at h2
   rw [h0] at h2
   cases hb:hpL G m0 k with
   | none=>exact absurd hb h2
   | some b =>
    rcases za5 hb with h|h
    ·rcases hk _ h with h3|h3
     ·exact absurd h3 hna
     ·exact h3.2.2 i hi
    ·have:=(hGF k b h).1;omega
  ·rw [c1,hG];exact za7 (λp hp=>((hm i hi).2 p hp).1) h1
  ·dsimp only at hx |-
   cases hb:hpL G (m i) x with
   | none=>rfl
   | some b =>
    rcases za5 hb with h|h
    ·have:=((hm i hi).2 _ h).2.1;simp at this;omega
    ·have:=(hGF x b h).1;omega
 refine zj5 (rs:=rs) (xs:=xs) asd hY hg (hG.symm▸hit) hxs hps (tsL l) (tsL (l++l2)) (λi h=>h=hpL G (m i)) (hpS:=hpL G (m 0)) B N hN hras (λk hk1=>⟨(has k hk1).1,(has k hk1).2.1⟩) (λk hk b hb=>Blk.ids_mono (λq hq=>.inl hq) (hcl k hk b hb)) (λC0 c1 c2=>?_) rfl (asn 0 (Nat.zero_le _)) (λu=>?_) (λi x hq hi hx hI C1 j c1 c2 c3=>?_) ?_
 ·refine ⟨λu=>?_,λk h1=>?_,(keepW 0 (Nat.zero_le _) C0 c1 c2 ⟨tsL l,s.hp,s.B,s.yc⟩ rfl hm0 rfl).ids,λk h1 hd=>?_,(keepW 0 (Nat.zero_le _) C0 c1 c2 ⟨tsL l,s.hp,s.B,s.yc⟩ rfl hm0 rfl).glob,rfl,(keepW 0 (Nat.zero_le _) C0 c1 c2 ⟨tsL l,s.hp,s.B,s.yc⟩ rfl hm0 rfl).free,hB⟩
  ·rcases zdv (l:=l) (t:=u) with h|h
   ·exact .inl h
   ·exact .inr ⟨(hl _ h).symm,(hm 0 (Nat.zero_le _)).1 _ h⟩
  ·dsimp only
   cases hb:hpL G (m 0) k with
   | none=>exact .inl rfl
   | some b =>
    rcases za5 hb with h|h
    ·exact .inr (hm0 _ h).symm
    ·have:=(hGF k b h).1;omega
  ·have h2:C0.hp0 k≠none:=hd
   rw [c2] at h2
   have hna:k∉asd:=λhm1=>h2 (if_pos hm1)
   simp only [if_neg hna] at h2
   rw [h0] at h2
   cases hb:hpL G m0 k with
   | none=>exact absurd hb h2
   | some b =>
    rcases za5 hb with h|h
    ·rcases hk _ h with h3|h3
     ·exact absurd h3 hna
     ·exact h3.2.1
    ·have:=(hGF k b h).1;omega
 ·rcases z7h (l:=l) (l2:=l2) (u:=u) with h|h
  ·exact .inl h
  ·exact .inr ⟨(hl2 _ h).1.symm,by rw [(hl2 _ h).1];exact (hl2 _ h).2⟩
 ·subst hI
  refine zb2 (rounds i x hi hx C1 j (c1.trans hG) c2 c3) λe s1 hs=>?_
  cases e with
  | normal =>
   intro C2 q1 q2 q3 q4
   refine zb2 (hs C2 (q1.trans hG) q2 q3 q4) λe s2 hs2=>?_
   cases e with
   | normal=>exact ⟨λk=>k,_,λC0 z1 z2=>keepW (i+1) hi C0 z1 z2 _ rfl hs2 rfl,rfl⟩
   | _=>exact hs2.elim
  | _=>exact hs.elim
 ·rcases fin with ⟨f1,f2⟩|⟨x,f1,f2⟩
  ·exact .inl ⟨f1,λhq hI=>by subst hI;exact ⟨λk hk1=>⟨asn N (Nat.le_refl _) k hk1,(has k hk1).2.2⟩,f2⟩⟩
  ·refine .inr ⟨x,f1,λhq hI C1 j c1 c2 c3=>?_⟩
   subst hI
   refine zb2 (f2 C1 j (c1.trans hG) c2 c3) λe s1 hs=>?_
   cases e with
   | normal =>
    intro C2 q1 q2 q3 q4
    refine zb2 (hs C2 (q1.trans hG) q2 q3 q4) λe s2 hs2=>⟨hs2.1,λu=>?_,hs2.2.2.1,hs2.2.2.2⟩
    rcases zdv (l:=l) (t:=u) with h|h
    ·rw [h];simp [zcj,zan,za0,zah,zal]
    ·exact hs2.2.1 _ h
   | _=>exact hs.elim
theorem zf5 {t:Tmp} {ps:Array Tmp} {assign body:Code} {f:FuncId} {caps:Array Value} {rs:List Nat} {xs:List (Array Value)} {m0:List (Nat×Blk)} (asd:List Nat) (hGF:zbg G) (hG:C.G=G) (h0:C.hp0=hpL G m0) (hY:C.Y=none) (hg:s.ts t=.func (.func f) #[] caps) (hit:IterK P G f caps s.hp rs xs)
  (hxs:∀ x∈xs,x.size=ps.size/\∀ v∈x,zau v=true) (hps:∀ p∈ps,p<n) (l l2:List (Nat×Value)) (m:Nat->List (Nat×Blk)) (B:Nat) (N:Nat) (hN:N<=xs.length) (hB:100<=B)
  (hras:∀ k∈rs,k∈asd) (has:∀ k∈asd,100<=k/\dom s.hp k/\k<B) (hcl:∀ k∈asd,∀ b,s.hp k=some b->b.ids λq=>q∈asd)
  (hl:∀ p∈l,s.ts p.1=p.2) (hl2:∀ p∈l2,s.ts p.1=p.2/\zan (λq=>q∈asd) p.2)
  (hm0:∀ p∈m 0,s.hp p.1=some p.2) (hm:∀ i,i<=N->(∀ p∈l,zan (dom (hpL G (m i))) p.2)/\∀ p∈m i,100<=p.1/\p.1<B/\p.1∉asd/\p.2.ids (dom (hpL G (m i))))
  (hk:∀ p∈m0,p.1∈asd\/(100<=p.1/\hpL G (m 0) p.1=s.hp p.1/\∀ i,i<=N->dom (hpL G (m i)) p.1))
  (rounds:∀ i x,i<N->xs[i]? = some x->∀ (C1:Ctx) (j:Nat),C1.G=G->C1.hp0=hpL G (m i)->C1.Y=none->GW P C1 n [] (some j) assign ⟨zao ps.toList x.toList (tsL l),hpL G (m i),B,0⟩
   (zbo (λs1=>∀ C2:Ctx,C2.G=G->C2.hp0=hpL G (m i)->C2.Y=none->GW P C2 n [] (some j) body s1 (zbo (λs2=>∀ p∈m (i+1),s2.hp p.1=some p.2) (λ_ _=>False))) (λ_ _=>False)))
  (fin:(N=xs.length/\K .normal ⟨tsL (l++l2),zbw asd s.hp (hpL G (m N)),B,s.yc⟩)\/∃ x,xs[N]? = some x/\∀ (C1:Ctx) (j:Nat),C1.G=G->C1.hp0=hpL G (m N)->C1.Y=none->GW P C1 n [] (some j) assign ⟨zao ps.toList x.toList (tsL l),hpL G (m N),B,0⟩
    (zbo (λs1=>∀ C2:Ctx,C2.G=G->C2.hp0=hpL G (m N)->C2.Y=none->GW P C2 n [] (some j) body s1 (λe s2=>(zbc e).isSome=true/\(∀ p∈l,zan (dom s2.hp) p.2)/\(∀ k∈asd,s2.hp k=none/\k<s2.B)/\K e ⟨tsL (l++l2),zbw asd s.hp s2.hp,s2.B,s.yc⟩)) (λ_ _=>False))) :
  GW P C n d none (.rangeFunc (.tmp t) ps assign body) s K :=
 zgp asd hGF hG h0 hY hg hit hxs hps l l2 m B N hN hB hras has hcl hl hl2 hm0 hm hk (λi x h1 h2 C1 j h4 h5 h6=>zb2 (rounds i x h1 h2 C1 j h4 h5 h6) λe s1 h=>by
   cases e<;>first|exact λC2 k1 k2 k3 _=>h C2 k1 k2 k3|exact h)
  (fin.imp id λ⟨x,hx,h⟩=>⟨x,hx,λC1 j h4 h5 h6=>zb2 (h C1 j h4 h5 h6) λe s1 h=>by
   cases e<;>first|exact λC2 k1 k2 k3 _=>h C2 k1 k2 k3|exact h⟩)
end
end Go.Gy
namespace Go.Gy
open Go Go.RowKit
theorem kpS {G : Hp} {m : List (Nat × Blk)} (hGF : zbg G) {hp : Hp} (h1 : ∀ p ∈ m, hp p.1 = hpL G m p.1 := by simp) (h2 : ∀ k, k < 100 -> hp k = hpL G m k := by (intro k hk; first | rfl | (simp (disch := omega) only [zbw, List.mem_cons, List.not_mem_nil, or_false, zaa, zag, zaq, if_neg, zbb] <;> done))) : ∀ k, dom (hpL G m) k -> hp k = hpL G m k := zbz hGF h1 h2
theorem kpT {G : Hp} {m : List (Nat × Blk)} (hGF : zbg G) {hp : Hp} (h1 : ∀ p ∈ m, hp p.1 = hpL G m p.1 := by (intro p hp; have hpb := hT.ok.big p hp; first | rfl | (simp (disch := omega) only [zbw, zaa, zag, zaq, if_neg, zbb, List.cons_append, List.nil_append] <;> done))) (h2 : ∀ k, k < 100 -> hp k = hpL G m k := by (intro k hk; first | exact hLow k hk | (simp (disch := omega) only [hLow, zbw, List.mem_cons, List.not_mem_nil, or_false, zaa, zag, zaq, if_neg, zbb, List.cons_append, List.nil_append] <;> done))) : ∀ k, dom (hpL G m) k -> hp k = hpL G m k := zbz hGF h1 h2
theorem zg0 {L : List (Nat × Blk)} {hp : Hp} (h : ∀ p ∈ L, hp p.1 = some p.2 := by (intro p hp; have hpb := hT.ok.big p hp; (try dsimp only); simp (disch := omega) only [zbw, zaa, zag, zaq, if_neg, zbb, List.cons_append, List.nil_append]; first | exact hT.mem p hp | exact cL p hp)) : ∀ p ∈ L, hp p.1 = some p.2 := h
end Go.Gy
namespace Go.Gy
open Go Go.RowKit
@[simp] theorem rg1:Array.range 1=#[0]:=rfl
@[simp] theorem rg2:Array.range 2=#[0,1]:=rfl
@[simp] theorem rg3:Array.range 3=#[0,1,2]:=rfl
@[simp] theorem rg4:Array.range 4=#[0,1,2,3]:=rfl
@[simp] theorem rg5:Array.range 5=#[0,1,2,3,4]:=rfl
@[simp] theorem rg6:Array.range 6=#[0,1,2,3,4,5]:=rfl
@[simp] theorem jn7:Array.range 20=#[0,1,2,3,4,5,6,7,8,9,10,11,12,13,14,15,16,17,18,19]:=rfl
@[simp] theorem jn8:Array.range 36=#[0,1,2,3,4,5,6,7,8,9,10,11,12,13,14,15,16,17,18,19,20,21,22,23,24,25,26,27,28,29,30,31,32,33,34,35]:=rfl
section
variable {P:Program} {G:Hp} {V:XV} {yc nk:Nat} {ts:Nat->Value} {hp:Hp} {C:Eff->Prop} {dst:Option Tmp} {type:TypeId} {pos:String} {after:Array Edge} {guard:Option (Nat×Bool)}
def bsZ (e len m nk:Nat) (ps:List (Nat×Value)) (z:Option Value) (C:Eff->Prop):Prop :=
 match z with
 | some z=>za1 z=true/\zau z=true/\0<len*m/\len*m<=16777216/\bsX (zfo (.inr m) ((Array.range (len*m)).map (z.cells[·%z.cells.size]!)) ps) e len nk C
 | none=>False
@[simp] theorem jes (e len m nk:Nat) (ps:List (Nat×Value)) (z:Value) (C:Eff->Prop):bsZ e len m nk ps (some z) C=(za1 z=true/\zau z=true/\0<len*m/\len*m<=16777216/\bsX (zfo (.inr m) ((Array.range (len*m)).map (z.cells[·%z.cells.size]!)) ps) e len nk C):=rfl
def bsM (P:Program) (e len nk:Nat) (ps:List (Nat×Value)) (m:Option Nat) (C:Eff->Prop):Prop :=
 match m with
 | some m=>bsZ e len m nk ps (zbd P e) C
 | none=>False
@[simp] theorem jep (P:Program) (e len m nk:Nat) (ps:List (Nat×Value)) (C:Eff->Prop):bsM P e len nk ps (some m) C=bsZ e len m nk ps (zbd P e) C:=rfl
def bsU (P:Program) (len nk:Nat) (ps:List (Nat×Value)) (u:Option TypeDesc) (C:Eff->Prop):Prop :=
 match u with
 | some (.slice e)=>bsM P e len nk ps (zas P e) C
 | _=>False
@[simp] theorem jeq (P:Program) (e len nk:Nat) (ps:List (Nat×Value)) (C:Eff->Prop):bsU P len nk ps (some (.slice e)) C=bsM P e len nk ps (zas P e) C:=rfl
@[simp ↓] theorem zyg (T:TypeId) (len:Nat) (parts:Array (Nat×Operand)):opX P G V yc ⟨dst,.buildSlice T len parts,type,pos,after,guard⟩ ts hp nk C =
  ((∀ p∈parts.toList,okX ts hp p.2/\za1 (gev ts p.2)=true)/\bsU P len nk (zdp ts parts) (P.underlying T) C):=by
 unfold opX bsU
 simp only
 cases hu:P.underlying T with
 | none=>rfl
 | some u =>
  cases u with
  | slice e =>
   simp only [bsM]
   cases hm:zas P e with
   | none=>rfl
   | some m =>
    simp only [bsZ]
    cases hz:zbd P e with
    | none=>rfl
    | some z =>
     simp only
     cases hf:zfo (.inr m) ((Array.range (len*m)).map (z.cells[·%z.cells.size]!)) (zdp ts parts)<;>rfl
  | _=>rfl
@[simp] theorem jiq (e m:Nat) (z:Value) (b:Nat) (l:Int) (w:Value) (C:Eff->Prop):msZ P e m nk (some z) (some b) (.int .i64 l) w C=(w=.int .i64 l/\za1 z=true/\zau z=true/\(0<l/\l<=4096)/\b<=4096/\0<m/\C ⟨.slice (some ⟨nk,0,none⟩) l.toNat l.toNat,[],[],[(nk,⟨(Array.range (l.toNat*m)).map (z.cells[·%z.cells.size]!),e⟩)],none,false⟩):=rfl
@[simp] theorem jfy (e m:Nat) (v w:Value) (C:Eff->Prop):msM P e nk (some m) v w C=msZ P e m nk (zbd P e) (tyB P e) v w C:=rfl
@[simp] theorem jcd (e:Nat) (v w:Value) (C:Eff->Prop):msU P nk (some (.slice e)) v w C=msM P e nk (zas P e) v w C:=rfl
@[simp ↓] theorem z08 (T:TypeId) (x y:Operand):opX P G V yc ⟨dst,.makeSlice T x y,type,pos,after,guard⟩ ts hp nk C=(okX ts hp x/\okX ts hp y/\msU P nk (P.underlying T) (gev ts x) (gev ts y) C):=nr rfl
end
end Go.Gy
namespace Go.Gy
open Go Go.RowKit Go.Proofs Go.Proofs.Tryz
def vf (x0 x1 x2:Int):Nat->Int
 | 0=>x0
 | 1=>x1
 | _=>x2
def vf2 (x0 x1 x2 y0 y1 y2:Int):Nat->Int
 | 0=>x0
 | 1=>x1
 | 2=>x2
 | 3=>y0
 | 4=>y1
 | _=>y2
def xsV (N:Nat) (f:Nat->Int):List (Array Value):=(List.range N).map λj=>#[.int .i64 ((j%3:Nat):Int),.int .i64 (f j)]
theorem zk6 (N:Nat) (f:Nat->Int) (i:Nat) (h:i<N):(xsV N f)[i]? = some #[.int .i64 ((i%3:Nat):Int),.int .i64 (f i)]:=by simp [xsV,h]
theorem zgd (b k m c:Nat) (cs:Array Value) (hcs:∀ x∈cs,za9 x=true) (hb:100<=b) (hb2:b<100000) (hk:100<=k) (hbk:b≠k):Fun prog G0 125 #[.slice (some ⟨b,0,none⟩) m c] (hpL G0 [(b,⟨cs,.ty 70⟩)]) [b] (.new (.func (.func 145) #[] #[.pointer (some ⟨k,0,none⟩)]) [(k,⟨#[.slice (some ⟨b,0,none⟩) m c],.ty 167⟩)]):=by
 have e0:rst (hpL G0 [(b,⟨cs,.ty 70⟩)]) [b]=hpL G0 [(b,⟨cs,.ty 70⟩)]:=zfs G0F (by simp)
 have hdom:∀ j,dom (hpL G0 [(b,⟨cs,.ty 70⟩)]) j->j=b\/j<100:=λj hj=>by
  unfold dom at hj
  cases hq:hpL G0 [(b,⟨cs,.ty 70⟩)] j with
  | none=>exact absurd hq hj
  | some q =>
   rcases za5 hq with h|h
   ·simp at h;exact .inl h.1
   ·exact .inr (G0F j q h).1
 have hdb:dom (hpL G0 [(b,⟨cs,.ty 70⟩)]) b:=by unfold dom;simp
 refine zq8 (B:=100000) (λj=>if j=k then 100000 else j) G0F (λj hj=>za7 (by simp;omega) hj) func125 rfl call125 ?_ ?_ ?_ (by simp [ntmps125]) (by omega) ?_ (λj hj=>?_) ?_ ?_ ?_ ?_
 ·rw [e0];simp [zan,za0,zah,zal];exact hdb
 ·rw [e0]
  intro j q hq
  rcases za5 hq with h|h
  ·simp at h;rw [h.2];exact Blk.flat_ids hcs
  ·exact zd4 _ _ _ h
 ·refine ⟨by simp [zan,za0,zah,zal,zcu,zab],by simp [zab];omega,λq b c h1 h2=>?_⟩
  simp at h1 h2
  rw [h1.2,h2.2]
 ·rw [e0]
  intro x hx
  simp [show ¬x=b by omega,show 100<=x by omega]
 ·rw [e0] at hj
  rcases hdom j hj with h|h
  ·rw [if_neg (by omega)]
  ·rw [if_neg (by omega)]
 ·rw [e0]
  intro p hp
  simp at hp
  subst hp
  refine ⟨λh=>?_,by simp⟩
  rcases hdom _ h with h|h<;>simp at h<;>omega
 ·simp
 ·rw [e0];simp [zah,zal];exact hdb
 ·intro C hC hC0 hY
  rw [e0]
  have hbB:¬b=100000:=by omega
  have hBb:¬100000=b:=by omega
  repeat' first|refine gwZ ?_|(refine gwX ?_;intro Q hQ _;simp [hC,hY,hbB,hBb,hbk];refine gwq hQ ?_)|refine gwC ?_ ?_<;>intro hb
  refine ⟨.inr trivial,?_⟩
  simp [results125,ren,zay,zaj,zam]
  intro j hj
  rcases hdom j hj with h|h
  ·have:¬j=100000:=by omega
   simp [this]
  ·have:¬j=100000:=by omega
   simp [this]
def zh7 (x0 x1 x2:Int):List (Nat×Blk):=[(100,⟨#[.slice (some ⟨108,0,none⟩) 1 1],.ty 167⟩),(108,⟨#[.int .i64 x0,.int .i64 x1,.int .i64 x2],.ty 70⟩)]
abbrev pv1 (x0 x1 x2:Int):Hp:=hpL G0 (zh7 x0 x1 x2)
theorem zfb (x0 x1 x2:Int):IterK prog G0 145 #[.pointer (some ⟨100,0,none⟩)] (pv1 x0 x1 x2) [100,108] (xsV 3 (vf x0 x1 x2)):=by
 have hL:LOk (zh7 x0 x1 x2) 200:=⟨by simp [zh7],by simp [zh7,zab],by simp [zh7,zac,zah,zal,zab]⟩
 have hlt:∀ k,dom (hpL G0 (zh7 x0 x1 x2)) k->k<200:=λk hk=>Classical.byContradiction λh1=>hk (hL.free G0F (by omega) k (by omega))
 refine zc7 (m:=zh7 x0 x1 x2) (B:=200) (v:=.tuple #[]) G0F func145 rfl call145 hL ?_ (by simp [ntmps145]) (by omega) ?_
 ·simp [zan,za0,zah,zal,zh7,zab]
 ·intro C l stop hC hC0 hY
  have exs:xsV 3 (vf x0 x1 x2)=[#[.int .i64 0,.int .i64 x0],#[.int .i64 1,.int .i64 x1],#[.int .i64 2,.int .i64 x2]]:=rfl
  rw [exs] at hY |-
  by_cases h3:3<=stop
  ·have q0:(0 != stop)=true:=by simp;omega
   have q1:(1 != stop)=true:=by simp;omega
   have q2:(2 != stop)=true:=by simp;omega
   have l1:1<=stop:=by omega
   have l2:2<=stop:=by omega
   repeat' first|refine zat ?_|refine zaw ?_|refine gwZ ?_|(refine gwX ?_;intro Q hQ _;simp [hC,hY,zh7,q0,q1,q2,l1,l2,h3];refine gwq hQ ?_)|refine gwC ?_ ?_<;>intro hb
   refine ⟨by simp,by simp [results145],by first|(simp;omega)|omega,λk hk=>?_⟩
   have hk:=hlt k hk
   simp (disch:=omega) only [zaa]
   rfl
  ·have:stop=0\/stop=1\/stop=2:=by omega
   rcases this with rfl|rfl|rfl
   all_goals
    repeat' first|refine zat ?_|refine zaw ?_|refine gwZ ?_|(refine gwX ?_;intro Q hQ _;simp [hC,hY,zh7];refine gwq hQ ?_)|refine gwC ?_ ?_<;>intro hb
   all_goals
    refine ⟨by simp,by simp [results145],by simp,λk hk=>?_⟩
    have hk:=hlt k hk
    simp (disch:=omega) only [zaa]
    rfl
theorem ztu (x0 x1 x2:Int):zg2 prog G0 145 #[.pointer (some ⟨100,0,none⟩)] (pv1 x0 x1 x2) [100,108] (xsV 3 (vf x0 x1 x2)):=(zfb x0 x1 x2).g
def zyi (x0 x1 x2 y0 y1 y2:Int):List (Nat×Blk):=[(100,⟨#[.slice (some ⟨108,0,none⟩) 2 2],.ty 167⟩),(108,⟨#[.int .i64 x0,.int .i64 x1,.int .i64 x2,.int .i64 y0,.int .i64 y1,.int .i64 y2],.ty 70⟩)]
abbrev pv2 (x0 x1 x2 y0 y1 y2:Int):Hp:=hpL G0 (zyi x0 x1 x2 y0 y1 y2)
theorem zp0 (x0 x1 x2 y0 y1 y2:Int):IterK prog G0 145 #[.pointer (some ⟨100,0,none⟩)] (pv2 x0 x1 x2 y0 y1 y2) [100,108] (xsV 6 (vf2 x0 x1 x2 y0 y1 y2)):=by
 have hL:LOk (zyi x0 x1 x2 y0 y1 y2) 200:=⟨by simp [zyi],by simp [zyi,zab],by simp [zyi,zac,zah,zal,zab]⟩
 have hlt:∀ k,dom (hpL G0 (zyi x0 x1 x2 y0 y1 y2)) k->k<200:=λk hk=>Classical.byContradiction λh1=>hk (hL.free G0F (by omega) k (by omega))
 refine zc7 (m:=zyi x0 x1 x2 y0 y1 y2) (B:=200) (v:=.tuple #[]) G0F func145 rfl call145 hL ?_ (by simp [ntmps145]) (by omega) ?_
 ·simp [zan,za0,zah,zal,zyi,zab]
 ·intro C l stop hC hC0 hY
  have exs:xsV 6 (vf2 x0 x1 x2 y0 y1 y2)=[#[.int .i64 0,.int .i64 x0],#[.int .i64 1,.int .i64 x1],#[.int .i64 2,.int .i64 x2],#[.int .i64 0,.int .i64 y0],#[.int .i64 1,.int .i64 y1],#[.int .i64 2,.int .i64 y2]]:=rfl
  rw [exs] at hY |-
  by_cases h6:6<=stop
  ·have q0:(0 != stop)=true:=by simp;omega
   have q1:(1 != stop)=true:=by simp;omega
   have q2:(2 != stop)=true:=by simp;omega
   have q3:(3 != stop)=true:=by simp;omega
   have q4:(4 != stop)=true:=by simp;omega
   have q5:(5 != stop)=true:=by simp;omega
   have l1:1<=stop:=by omega
   have l2:2<=stop:=by omega
   have l3:3<=stop:=by omega
   have l4:4<=stop:=by omega
   have l5:5<=stop:=by omega
   repeat' first|refine zat ?_|refine zaw ?_|refine gwZ ?_|(refine gwX ?_;intro Q hQ _;simp [hC,hY,zyi,q0,q1,q2,q3,q4,q5,l1,l2,l3,l4,l5,h6];refine gwq hQ ?_)|refine gwC ?_ ?_<;>intro hb
   refine ⟨by simp,by simp [results145],by first|(simp;omega)|omega,λk hk=>?_⟩
   have hk:=hlt k hk
   simp (disch:=omega) only [zaa]
   rfl
  ·have:stop=0\/stop=1\/stop=2\/stop=3\/stop=4\/stop=5:=by omega
   rcases this with rfl|rfl|rfl|rfl|rfl|rfl
   all_goals
    repeat' first|refine zat ?_|refine zaw ?_|refine gwZ ?_|(refine gwX ?_;intro Q hQ _;simp [hC,hY,zyi];refine gwq hQ ?_)|refine gwC ?_ ?_<;>intro hb
   all_goals
    refine ⟨by simp,by simp [results145],by simp,λk hk=>?_⟩
    have hk:=hlt k hk
    simp (disch:=omega) only [zaa]
    rfl

theorem bm {x:Int} (h0:-9223372036854775808<=x) (h1:x<9223372036854775808):Int.bmod x 18446744073709551616=x:=by
 rw [Int.bmod_def];split<;>omega
def um (z:Int):Int:=if sz z<0 then -sz z else sz z
theorem jjj (z:Int):-57896044618658097711785492504343953926634992332820282019728792003956564819968<=sz z/\sz z<57896044618658097711785492504343953926634992332820282019728792003956564819968:=by
 unfold sz;rw [Int.bmod_def];constructor<;>split<;>omega
theorem jdx (z:Int):0<=um z/\um z<=57896044618658097711785492504343953926634992332820282019728792003956564819968:=by
 have:=jjj z;unfold um;split<;>omega
theorem zxj (z:Int):sz z%115792089237316195423570985008687907853269984665640564039457584007913129639936=z%115792089237316195423570985008687907853269984665640564039457584007913129639936:=by
 unfold sz;rw [Int.bmod_def];split<;>omega
def zot (a b:Int):Bool:=decide (¬(-57896044618658097711785492504343953926634992332820282019728792003956564819968<=sz a*sz b/\sz a*sz b<57896044618658097711785492504343953926634992332820282019728792003956564819968))
theorem ztw (D:Int) (h:sz D=0):wi D 0=0/\wi D 1=0/\wi D 2=0/\wi D 3=0:=by
 have h1:=zxj D
 rw [h] at h1
 simp only [wi]
 refine ⟨?_,?_,?_,?_⟩<;>omega
theorem zx1 (D:Int) (h:sz D=0):(!wi D 0==0||(!wi D 1==0||(!wi D 2==0||!wi D 3==0)))=false:=by
 obtain ⟨w0,w1,w2,w3⟩:=ztw D h
 simp [w0,w1,w2,w3]
theorem zml (D:Int) (h:¬sz D=0):(!wi D 0==0||(!wi D 1==0||(!wi D 2==0||!wi D 3==0)))=true:=by
 have:=wne D 0
 simp at this
 rw [this]
 have e:sz 0=0:=by decide
 simp [e,h]
theorem zwt (a b:Int) (h:(ng a==ng b)=true):sz a*sz b=um a*um b:=by
 rw [zfx,zfx] at h
 simp at h
 unfold um
 by_cases h1:sz a<0
 ·rw [if_pos h1,if_pos (h.1 h1),Int.neg_mul_neg]
 ·rw [if_neg h1,if_neg (λh2=>h1 (h.2 h2))]
theorem zta (a b:Int) (h:(ng a==ng b)=false):sz a*sz b=-(um a*um b):=by
 rw [zfx,zfx] at h
 simp at h
 unfold um
 by_cases h1:sz a<0
 ·rw [if_pos h1,if_neg (λh2=>h ⟨λ_=>h2,λ_=>h1⟩),Int.neg_mul,Int.neg_neg]
 ·have h2:sz b<0:=Classical.byContradiction λh2=>h ⟨λh3=>absurd h3 h1,λh3=>absurd h3 h2⟩
  rw [if_neg h1,if_pos h2,Int.mul_neg,Int.neg_neg]
theorem zgc (D:Int) (h0:0<=D) (h1:¬115792089237316195423570985008687907853269984665640564039457584007913129639936<=D):sz D=if 57896044618658097711785492504343953926634992332820282019728792003956564819968<=D then D - 115792089237316195423570985008687907853269984665640564039457584007913129639936 else D:=by
 unfold sz;rw [Int.bmod_def];split<;>split<;>omega
theorem zxk (D:Int) (h0:0<=D) (h1:¬115792089237316195423570985008687907853269984665640564039457584007913129639936<=D):sz (-D)=if 57896044618658097711785492504343953926634992332820282019728792003956564819968<D then 115792089237316195423570985008687907853269984665640564039457584007913129639936 - D else -D:=by
 unfold sz;rw [Int.bmod_def];split<;>split<;>omega

theorem z1z (z:Int):Ret prog G0 104 #[wd z] (.bool (ng z)):=by
 refine za2 G0F func104 rfl call104 rfl (by simp) (by simp [ntmps104]) ?_
 intro C hC _ hY
 repeat' first|refine gwZ ?_|refine gwW ?_|refine gwC ?_ ?_<;>intro hb
 refine ⟨.inr trivial,?_⟩
 have:=zbk z 3
 have:=zbp z 3
 simp [results104,ng]
 rw [Int.bmod_def]
 split<;>omega
@[simp] theorem jow (z:Int) (K:Value->Prop):zbe prog G0 104 #[Value.agg #[.int .u64 (wi (z) 0),.int .u64 (wi (z) 1),.int .u64 (wi (z) 2),.int .u64 (wi (z) 3)]] K↔K (.bool (ng z)):=zaf G0W (by kernel_rfl) (z1z z)

theorem zus (x y c:Int) (hx:0<=x) (hy:0<=y) (h0:0<=c) (h1:c<=1):jeg prog 128 #[.int .u64 x,.int .u64 y,.int .u64 c] (.tuple #[.int .u64 ((x+y+c)%18446744073709551616),.int .u64 ((x+y+c) / 18446744073709551616)]):=by
 refine ⟨by simp,by simp,λw=>?_⟩
 rw [run_callFunc_extern func128 (by kernel_rfl) (by kernel_rfl) (by kernel_rfl) (e:=add64Entry) (by kernel_rfl),run_add64 x y c hx hy h0 h1]
 simp only [Result.andThen]
@[simp] theorem jls (x y c:Int) (hx:0<=x) (hy:0<=y) (h0:0<=c) (h1:c<=1) (K:Value->Prop):zbe prog G0 128 #[.int .u64 x,.int .u64 y,.int .u64 c] K↔K (.tuple #[.int .u64 ((x+y+c)%18446744073709551616),.int .u64 ((x+y+c) / 18446744073709551616)]):=zr8 (zus x y c hx hy h0 h1)

def wb (z:Int):Blk:=⟨#[.int .u64 (wi z 0),.int .u64 (wi z 1),.int .u64 (wi z 2),.int .u64 (wi z 3)],.ty 30⟩
theorem zx0 (a b:Int) (k:Nat) (h100:100<=k):Fun prog G0 129 #[wd a,wd b] G0 [] (.new (.func (.func 146) #[] #[.pointer (some ⟨k,0,none⟩),.pointer (some ⟨k+1,0,none⟩)]) [(k,wb a),(k+1,wb b)]):=by
 have e0:rst G0 []=G0:=zjn G0F []
 refine zq8 (B:=200) (λj=>if j=k then 200 else if j=k+1 then 208 else j) G0F (λ_ _=>rfl) func129 rfl call129 (by simp [zan,za0,zah,zal]) (by rw [e0];exact zd4 _) ?_ (by simp [ntmps129]) (by omega) (by rw [e0];exact λx hx=>zff x (by omega)) (λj hj=>?_) ?_ ?_ ?_ ?_
 ·refine ⟨by simp [zan,za0,zah,zal,zcu,zab],by simp [zab];omega,λq b c h1 h2=>?_⟩
  simp at h1 h2
  rcases h1 with ⟨e1,rfl⟩|⟨e1,rfl⟩<;>rcases h2 with ⟨e2,rfl⟩|⟨e2,rfl⟩<;>first|rfl|omega
 ·rw [e0] at hj;have:=zif hj;rw [if_neg (by omega),if_neg (by omega)]
 ·simp [e0,dom]
 ·simp
 ·simp [wb,zac,zah,zal]
 ·intro C hC hC0 hY
  rw [e0]
  repeat' first|refine gwZ ?_|refine gwW ?_|refine gwC ?_ ?_<;>intro hb
  refine ⟨.inr trivial,?_⟩
  simp [results129,ren,zay,zaj,zam,wb]
  intro j hj
  have:=zif hj
  rw [if_neg (by omega),if_neg (by omega)]
def zep (a b:Int):List (Array Value):=[#[.int .u64 (wi a 0),.int .u64 (wi b 0)],#[.int .u64 (wi a 1),.int .u64 (wi b 1)],#[.int .u64 (wi a 2),.int .u64 (wi b 2)],#[.int .u64 (wi a 3),.int .u64 (wi b 3)]]

def wHp (a b:Int):Hp:=hpL G0 [(100,wb a),(101,wb b)]
def zmk (a b:Int) (l i:Nat):GS :=
 ⟨tsL [(0,.func (.yield l) #[] #[]),(1,.pointer (some ⟨100,0,none⟩)),(2,.pointer (some ⟨101,0,none⟩)),(5,.int .i64 i)],wHp a b,300,i⟩
theorem z15 (a b:Int):zg2 prog G0 146 #[.pointer (some ⟨100,0,none⟩),.pointer (some ⟨101,0,none⟩)] (wHp a b) [100,101] (zep a b):=by
 have e0:rst (wHp a b) [100,101]=wHp a b:=zfs G0F (by simp)
 refine zpf (B:=200) (v:=.tuple #[]) G0F (λk hk=>za7 (by simp) hk) func146 rfl call146 ?_ ?_ (by simp [ntmps146]) (by omega) ?_ ?_
 ·rw [e0];simp [zan,za0,zah,zal,dom,wHp]
 ·rw [e0]
  intro k c hk
  rcases za5 hk with h|h
  ·simp at h
   rcases h with ⟨_,rfl⟩|⟨_,rfl⟩<;>simp [wb,zac,zah,zal]
  ·exact Blk.flat_ids ((G0F k c h).2)
 ·rw [e0]
  intro x hx
  have h1:¬x=100:=by omega
  have h2:¬x=101:=by omega
  have h3:100<=x:=by omega
  simp [wHp,h1,h2,h3]
 ·intro C l stop hC hC0 hY
  rw [e0] at hC0 |-
  repeat' first|refine gwZ ?_|(refine gwX ?_;intro Q hQ _;simp [hC,hY,wHp,wb];refine gwq hQ ?_)|refine gwC ?_ ?_<;>intro hb
  refine zc3 (min stop 4) (zmk a b l) ?_ ?_ ?_
  ·refine zbi _ 300 hC G0F (m0:=[(100,wb a),(101,wb b)]) hC0 (by omega) ?_ ?_ ?_
   ·simp [zan,za0,zah,zal,dom]
   ·simp [zac,zah,zal,wb]
   ·simp [wb]
  ·intro i hi
   have hs:i<stop:=by omega
   have hq:(i != stop)=true:=by simp;omega
   have hle:i<=stop:=by omega
   have:i=0\/i=1\/i=2\/i=3:=by omega
   rcases this with rfl|rfl|rfl|rfl<;>unfold zmk wHp
   all_goals
    repeat' first|refine gwZ ?_|(refine gwX ?_;intro Q hQ _;simp [hC,hY,zep,hq,hle,wb];refine gwq hQ ?_)|refine gwC ?_ ?_<;>intro hb
   all_goals
    refine zbi _ 300 hC G0F (m0:=[(100,wb a),(101,wb b)]) hC0 (by omega) ?_ ?_ ?_
    ·simp [zan,za0,zah,zal,dom]
    ·simp [zac,zah,zal,wb]
    ·simp [wb]
  ·by_cases h4:4<=stop
   ·rw [Nat.min_eq_right h4]
    unfold zmk wHp
    repeat' first|refine gwZ ?_|(refine gwX ?_;intro Q hQ _;simp [hC,hY,zep,wb];refine gwq hQ ?_)|refine gwC ?_ ?_<;>intro hb
    refine ⟨.inl trivial,?_⟩
    simp [results146,zep]
    omega
   ·rw [Nat.min_eq_left (by omega)]
    have:stop=0\/stop=1\/stop=2\/stop=3:=by omega
    rcases this with rfl|rfl|rfl|rfl<;>unfold zmk wHp
    all_goals
     repeat' first|refine gwZ ?_|(refine gwX ?_;intro Q hQ _;simp [hC,hY,zep,wb];refine gwq hQ ?_)|refine gwC ?_ ?_<;>intro hb
    all_goals
     refine ⟨.inr trivial,?_⟩
     simp [results146,zep]

theorem z6t (i:Nat):(2:Int)^(64*i)=2^(32*(2*i)):=by congr 1;omega
theorem jgw (a b c:Int) (i:Nat):(wi a i+wi b i+car a b c (2*i))%18446744073709551616=wi (a+b+c) i:=by
 unfold wi car
 rw [z6t,zsd a b c _ (zew (2*i))]
 omega
theorem jgx (a b c:Int) (i:Nat):(wi a i+wi b i+car a b c (2*i)) / 18446744073709551616=car a b c (2*(i+1)):=by
 unfold wi car
 have e:(2:Int)^(32*(2*(i+1)))=2^(32*(2*i))*18446744073709551616:=by
  rw [show 32*(2*(i+1))=32*(2*i)+64 by omega,Int.pow_add];rfl
 rw [z6t,e,zg4 a _ _ (zew (2*i)) (by omega),zg4 b _ _ (zew (2*i)) (by omega)]
 generalize hM:(2:Int)^(32*(2*i))=M
 have hp:0<M:=hM▸zew (2*i)
 have e:a%M+M*(a / M%18446744073709551616)+(b%M+M*(b / M%18446744073709551616))+c=(a%M+b%M+c)+M*(a / M%18446744073709551616+b / M%18446744073709551616):=by rw [Int.mul_add];omega
 rw [e,<-Int.ediv_ediv_of_nonneg (Int.le_of_lt hp),Int.add_mul_ediv_left _ _ (by omega)]
 congr 1
 omega

theorem zg2.cast {P:Program} {G:Hp} {f:FuncId} {caps caps':Array Value} {hp:Hp} {rs rs':List Nat} {xs:List (Array Value)} (h:zg2 P G f caps hp rs xs) (e1:caps=caps') (e2:rs=rs'):zg2 P G f caps' hp rs' xs:=by subst e1 e2;exact h

theorem zgz {D:Nat->Prop} {l:List (Nat×Value)} (h:∀ p∈l,zan D p.2) (t:Nat):zan D (tsL l t):=by
 rcases zdv (l:=l) (t:=t) with e|e
 ·rw [e];simp [zcj,zan,za0,zah,zal]
 ·exact h _ e
def jc0 (a b c:Int) (i:Nat):Hp:=hpL G0 [(200,wb a),(208,wb b),(216,⟨#[.int .u64 (car a b c (2*i))],.ty 28⟩),
 (224,⟨#[.int .u64 (if 0<i then wi (a+b+c) 0 else 0),.int .u64 (if 1<i then wi (a+b+c) 1 else 0),.int .u64 (if 2<i then wi (a+b+c) 2 else 0),.int .u64 (if 3<i then wi (a+b+c) 3 else 0)],.ty 30⟩),
 (232,⟨#[.int .i64 i],.ty 3⟩)]
def jgf:Nat->Value:=tsL [(3,.pointer (some ⟨200,0,none⟩)),(4,.pointer (some ⟨208,0,none⟩)),(5,.pointer (some ⟨216,0,none⟩)),(6,.pointer (some ⟨224,0,none⟩)),(7,.pointer (some ⟨232,0,none⟩))]
theorem zx2 (a b c:Int) (h0:0<=c) (h1:c<=1):Ret prog G0 102 #[wd a,wd b,.int .u64 c] (wd (a+b+c)):=by
 refine za2 G0F func102 rfl call102 (by simp) (by simp) (by simp [ntmps102]) ?_
 intro C hC hC0 hY
 repeat' first|refine gwZ ?_|refine gwW ?_|refine gwC ?_ ?_<;>intro hb
 refine zct [129] (by kernel_rfl) ?_;intro Q hQ hP;simp [hC,hY]
 refine zb7 (zx0 a b 264 (by omega)) (by simp) (λ_ _=>rfl) (by simp [Res.at]) ?_
 simp
 refine hQ _ _ _ _ ?_;clear hQ hP Q
 repeat' first|refine gwZ ?_|refine gwW ?_|refine gwC ?_ ?_<;>intro hb
 refine ziq (f:=146) (rs:=[264,265]) (xs:=zep a b) (caps:=#[.pointer (some ⟨264,0,none⟩),.pointer (some ⟨265,0,none⟩)]) (by simp) ?_ (by simp [zep]) (by simp [ntmps102]) jgf (jc0 a b c) 300 4 (by simp [zep]) ?_ ?_ ?_ ?_ ?_
 ·rw [hC]
  refine zg2.cast (IterX.rn (λk=>if k=100 then 264 else if k=101 then 265 else k) G0F (λk hk=>za7 (by simp) hk) (rs:=[100,101]) ?_ (z15 a b)) (by simp [zam]) (by simp)
  refine ⟨λk hk=>?_,?_,?_,?_⟩
  ·have h1:¬k=100:=by omega
   have h2:¬k=101:=by omega
   have h3:¬k=200:=by omega
   have h4:¬k=208:=by omega
   have h5:¬k=216:=by omega
   have h6:¬k=224:=by omega
   have h7:¬k=232:=by omega
   have h8:¬k=264:=by omega
   have h9:¬k=265:=by omega
   simp [h1,h2,h3,h4,h5,h6,h7,h8,h9,wHp]
  ·simp
  ·simp [wHp,wb,Blk.rn,zaj,zam]
  ·simp
 ·refine zbi _ 300 hC G0F (m0:=[]) hC0 (by omega) ?_ ?_ ?_
  ·simp [zan,za0,zah,zal,dom]
  ·simp [zac,zah,zal,wb,zy9]
  ·simp
 ·simp [jc0,dom]
 ·intro i hi t
  refine zgz ?_ t
  simp [zan,za0,zah,zal,dom,jc0]
 ·intro i x hi hx C1 l hC1 hh1 hY1
  have hCC:=hC
  have hC1':C1.G=G0:=hC1.trans hC
  have c0:=λk=>(z2m a b c h0 h1 k).1
  have c1:=λk=>(z2m a b c h0 h1 k).2
  have A0:(wi a 0+wi b 0+car a b c 0)%18446744073709551616=wi (a+b+c) 0:=jgw a b c 0
  have A1:(wi a 1+wi b 1+car a b c 2)%18446744073709551616=wi (a+b+c) 1:=jgw a b c 1
  have A2:(wi a 2+wi b 2+car a b c 4)%18446744073709551616=wi (a+b+c) 2:=jgw a b c 2
  have A3:(wi a 3+wi b 3+car a b c 6)%18446744073709551616=wi (a+b+c) 3:=jgw a b c 3
  have B0:(wi a 0+wi b 0+car a b c 0) / 18446744073709551616=car a b c 2:=jgx a b c 0
  have B1:(wi a 1+wi b 1+car a b c 2) / 18446744073709551616=car a b c 4:=jgx a b c 1
  have B2:(wi a 2+wi b 2+car a b c 4) / 18446744073709551616=car a b c 6:=jgx a b c 2
  have B3:(wi a 3+wi b 3+car a b c 6) / 18446744073709551616=car a b c 8:=jgx a b c 3
  replace hC:=hC1'
  replace hY:=hY1
  have:i=0\/i=1\/i=2\/i=3:=by omega
  rcases this with rfl|rfl|rfl|rfl
  all_goals
   simp [zep] at hx
   subst hx
   unfold jc0
  all_goals
   repeat' first|refine gwZ ?_|(refine gwX ?_;intro Q hQ _;simp [hC,hY,zao,jgf];refine gwq hQ ?_)|refine gwC ?_ ?_<;>intro hb
  all_goals
   intro C2 hC2 hh2 hY2
   replace hC:C2.G=G0:=hC2.trans hCC
   replace hY:=hY2
   repeat' first|refine gwZ ?_|(refine gwX ?_;intro Q hQ _;simp [hC,hY,zao,jgf,c0,c1,zbk,A0,A1,A2,A3,B0,B1,B2,B3];refine gwq hQ ?_)|refine gwC ?_ ?_<;>intro hb
  all_goals
   refine zbi [] 300 hC1' G0F hh1 (by omega) ?_ ?_ ?_
   ·simp
   ·simp [zac,zah,zal,wb]
   ·simp [wb]
 ·left
  refine ⟨rfl,?_⟩
  unfold jc0 jgf
  repeat' first|refine gwZ ?_|refine gwW ?_|refine gwC ?_ ?_<;>intro hb
  refine ⟨.inr trivial,?_⟩
  simp [results102]
@[simp] theorem jm6 (a b c:Int) (h0:0<=c) (h1:c<=1) (K:Value->Prop):zbe prog G0 102 #[Value.agg #[.int .u64 (wi (a) 0),.int .u64 (wi (a) 1),.int .u64 (wi (a) 2),.int .u64 (wi (a) 3)],Value.agg #[.int .u64 (wi (b) 0),.int .u64 (wi (b) 1),.int .u64 (wi (b) 2),.int .u64 (wi (b) 3)],.int .u64 c] K↔K (wd (a+b+c)):=zaf G0W (by kernel_rfl) (zx2 a b c h0 h1)

theorem z1s (a b:Int):Ret prog G0 124 #[wd a,wd b] (.tuple #[wd (a+b),.bool (ng a==ng b&&ng (a+b) != ng a)]):=by
 refine za2 G0F func124 rfl call124 (by simp) (by simp) (by simp [ntmps124]) ?_
 intro C hC hC0 hY
 cases hq:(ng a==ng b)
 all_goals
  repeat' first|refine gwZ ?_|(refine gwX ?_;intro Q hQ _;simp [hC,hY,hq];refine gwq hQ ?_)|refine gwC ?_ ?_<;>intro hb
  refine ⟨.inr trivial,?_⟩
  simp [results124,hq]
@[simp] theorem jor (a b:Int) (K:Value->Prop):zbe prog G0 124 #[Value.agg #[.int .u64 (wi (a) 0),.int .u64 (wi (a) 1),.int .u64 (wi (a) 2),.int .u64 (wi (a) 3)],Value.agg #[.int .u64 (wi (b) 0),.int .u64 (wi (b) 1),.int .u64 (wi (b) 2),.int .u64 (wi (b) 3)]] K↔K (.tuple #[wd (a+b),.bool (ng a==ng b&&ng (a+b) != ng a)]):=zaf G0W (by kernel_rfl) (z1s a b)
theorem z7n (n:Int) (h:i64 n):Ret prog G0 99 #[.int .i64 n] (wd n):=by
 refine za2 G0F func99 rfl call99 (by simp) (by simp) (by simp [ntmps99]) ?_
 intro C hC hC0 hY
 repeat' first|refine gwZ ?_|refine gwW ?_|refine gwC ?_ ?_<;>intro hb
 refine ⟨.inr trivial,?_⟩
 simp [results99,wi]
 unfold i64 at h
 rw [Int.fdiv_eq_ediv_of_nonneg _ (by omega)]
 by_cases hn:n<0
 ·have e1:n / 9223372036854775808=-1:=by omega
  have e2:n / 18446744073709551616=-1:=by omega
  have e3:n / 340282366920938463463374607431768211456=-1:=by omega
  have e4:n / 6277101735386680763835789423207666416102355444464034512896=-1:=by omega
  rw [e1,e2,e3,e4];decide
 ·have e1:n / 9223372036854775808=0:=by omega
  have e2:n / 18446744073709551616=0:=by omega
  have e3:n / 340282366920938463463374607431768211456=0:=by omega
  have e4:n / 6277101735386680763835789423207666416102355444464034512896=0:=by omega
  rw [e1,e2,e3,e4];decide
@[simp] theorem wOf (n:Int) (h:i64 n) (K:Value->Prop):zbe prog G0 99 #[.int .i64 n] K↔K (wd n):=zaf G0W (by kernel_rfl) (z7n n h)
theorem z2c (x:Int) (h0:0<=x) (h1:x<18446744073709551616):zdr .xor .u64 IntKind.u64.max x=18446744073709551615 - x:=by
 have e:BitVec.ofInt 64 IntKind.u64.max=BitVec.allOnes 64:=by decide
 unfold zdr
 show IntKind.u64.wrap ((BitVec.ofInt 64 IntKind.u64.max ^^^ BitVec.ofInt 64 x:BitVec 64).toNat:Int)=_
 rw [zmn,e,BitVec.allOnes_xor,BitVec.toNat_not]
 have:(BitVec.ofInt 64 x).toNat=x.toNat:=by
  rw [BitVec.toNat_ofInt]
  congr 1
  exact Int.emod_eq_of_lt h0 h1
 rw [this]
 omega
theorem jjz (z:Int) (k:Nat):18446744073709551615 - wi z k=wi (-z - 1) k:=by
 unfold wi
 generalize hM:(2:Int)^(64*k)=M
 have hp:0<M:=by rw [<-hM,z6t];exact zew _
 have e:(-z - 1) / M=-(z / M) - 1:=by
  have h1:=Int.emod_add_mul_ediv z M
  have h2:=Int.emod_nonneg z (b:=M) (by omega)
  have h3:=Int.emod_lt_of_pos z hp
  have:-z - 1=(M - 1 - z%M)+M*(-(z / M) - 1):=by rw [Int.mul_sub,Int.mul_neg];omega
  rw [this,Int.add_mul_ediv_left _ _ (by omega),Int.ediv_eq_zero_of_lt (by omega) (by omega)]
  omega
 rw [e]
 omega
theorem z14 (z:Int):Ret prog G0 103 #[wd z] (wd (-z - 1)):=by
 refine za2 G0F func103 rfl call103 (by simp) (by simp) (by simp [ntmps103]) ?_
 intro C hC hC0 hY
 repeat' first|refine gwZ ?_|refine gwW ?_|refine gwC ?_ ?_<;>intro hb
 refine ⟨.inr trivial,?_⟩
 have e:(if IntKind.u64.signed=true then (-1:Int) else IntKind.u64.max)=IntKind.u64.max:=rfl
 have X:=λk=>z2c (wi z k) (zbk z k) (zbp z k)
 simp [results103,e,X,jjz]
@[simp] theorem jov (z:Int) (K:Value->Prop):zbe prog G0 103 #[Value.agg #[.int .u64 (wi (z) 0),.int .u64 (wi (z) 1),.int .u64 (wi (z) 2),.int .u64 (wi (z) 3)]] K↔K (wd (-z - 1)):=zaf G0W (by kernel_rfl) (z14 z)
theorem z19 (a b:Int):Ret prog G0 69 #[wd a,wd b] (.tuple #[wd (a - b),.bool (ng a != ng b&&ng (a - b) != ng a)]):=by
 refine za2 G0F func69 rfl call69 (by simp) (by simp) (by simp [ntmps69]) ?_
 intro C hC hC0 hY
 have e:a+(-b - 1)+1=a - b:=by omega
 cases hq:(ng a != ng b)
 all_goals
  repeat' first|refine gwZ ?_|(refine gwX ?_;intro Q hQ _;simp [hC,hY,hq,e];refine gwq hQ ?_)|refine gwC ?_ ?_<;>intro hb
  refine ⟨.inr trivial,?_⟩
  simp [results69,hq,e]
@[simp] theorem jm4 (a b:Int) (K:Value->Prop):zbe prog G0 69 #[Value.agg #[.int .u64 (wi (a) 0),.int .u64 (wi (a) 1),.int .u64 (wi (a) 2),.int .u64 (wi (a) 3)],Value.agg #[.int .u64 (wi (b) 0),.int .u64 (wi (b) 1),.int .u64 (wi (b) 2),.int .u64 (wi (b) 3)]] K↔K (.tuple #[wd (a - b),.bool (ng a != ng b&&ng (a - b) != ng a)]):=zaf G0W (by kernel_rfl) (z19 a b)
theorem z1y (z:Int):Ret prog G0 76 #[wd z] (.tuple #[.int .i64 (if i64 (sz z) then sz z else 0),.bool (decide (i64 (sz z)))]):=by
 refine za2 G0F func76 rfl call76 (by simp) (by simp) (by simp [ntmps76]) ?_
 intro C hC hC0 hY
 have h:=zy5 (wi z 0)
 repeat' first|refine gwZ ?_|(refine gwX ?_;intro Q hQ _;simp [hC,hY,h];refine gwq hQ ?_)|refine gwC ?_ ?_<;>intro hb
 all_goals
  refine ⟨.inr trivial,?_⟩
  try rw [wne] at hb
  try rw [weq] at hb
  simp at hb
  rw [eq_comm,jbo] at hb
  simp [results76,hb]
 exact z5u z hb
@[simp] theorem jos (z:Int) (K:Value->Prop):zbe prog G0 76 #[Value.agg #[.int .u64 (wi (z) 0),.int .u64 (wi (z) 1),.int .u64 (wi (z) 2),.int .u64 (wi (z) 3)]] K↔K (.tuple #[.int .i64 (if i64 (sz z) then sz z else 0),.bool (decide (i64 (sz z)))]):=zaf G0W (by kernel_rfl) (z1y z)

theorem z6d:ng 0=false:=by decide
@[simp] theorem jm5 (a:Int) (K:Value->Prop):zbe prog G0 69 #[.agg #[.int .u64 0,.int .u64 0,.int .u64 0,.int .u64 0],Value.agg #[.int .u64 (wi (a) 0),.int .u64 (wi (a) 1),.int .u64 (wi (a) 2),.int .u64 (wi (a) 3)]] K↔K (.tuple #[wd (-a),.bool (ng a&&ng (-a))]):=by
 have:=jm4 0 a K
 have e:((false != ng a)&&ng (0 - a) != false)=(ng a&&ng (-a)):=by
  rw [Int.zero_sub];cases ng a<;>cases ng (-a)<;>rfl
 rw [z6d,e,Int.zero_sub] at this
 simpa using this
theorem z13 (a:Int):Ret prog G0 126 #[wd a] (.tuple #[wd (-a),.bool (ng a&&ng (-a))]):=by
 refine za2 G0F func126 rfl call126 (by simp) (by simp) (by simp [ntmps126]) ?_
 intro C hC hC0 hY
 repeat' first|refine gwZ ?_|refine gwW ?_|refine gwC ?_ ?_<;>intro hb
 refine ⟨.inr trivial,?_⟩
 simp [results126]
@[simp] theorem jou (a:Int) (K:Value->Prop):zbe prog G0 126 #[Value.agg #[.int .u64 (wi (a) 0),.int .u64 (wi (a) 1),.int .u64 (wi (a) 2),.int .u64 (wi (a) 3)]] K↔K (.tuple #[wd (-a),.bool (ng a&&ng (-a))]):=zaf G0W (by kernel_rfl) (z13 a)

theorem z0z (x:Int):Ret prog G0 108 #[.int .i64 x] (.bool false):=by
 refine za2 G0F func108 rfl call108 rfl (by simp) (by simp [ntmps108]) ?_
 intro C hC hC0 hY
 repeat' first|refine gwZ ?_|refine gwW ?_|refine gwC ?_ ?_<;>intro hb
 refine ⟨.inr trivial,?_⟩
 simp [results108]
@[simp] theorem jnv (x:Int) (K:Value->Prop):zbe prog G0 108 #[.int .i64 x] K↔K (.bool false):=zaf G0W (by kernel_rfl) (z0z x)
theorem z00 (x:Int):Ret prog G0 109 #[.int .u64 x] (.bool false):=by
 refine za2 G0F func109 rfl call109 rfl (by simp) (by simp [ntmps109]) ?_
 intro C hC hC0 hY
 repeat' first|refine gwZ ?_|refine gwW ?_|refine gwC ?_ ?_<;>intro hb
 refine ⟨.inr trivial,?_⟩
 simp [results109]
@[simp] theorem jnw (x:Int) (K:Value->Prop):zbe prog G0 109 #[.int .u64 x] K↔K (.bool false):=zaf G0W (by kernel_rfl) (z00 x)
theorem zzf (x y:Int):Ret prog G0 77 #[.int .i64 x,.int .i64 y] (.int .i64 (zch x y)):=by
 refine za2 G0F func77 rfl call77 rfl (by simp) (by simp [ntmps77]) ?_
 intro C hC hC0 hY
 by_cases h1:x<y
 ·(repeat' (first|refine gwZ ?_|(refine gwX ?_;intro Q hQ _;simp [hC,hY,h1];refine gwq hQ ?_)|refine gwC ?_ ?_<;>intro hb))
  all_goals
   refine ⟨.inr trivial,?_⟩
   simp [results77,zch,h1]
 ·by_cases h2:y<x
  ·have h3:¬x=y:=by omega
   (repeat' (first|refine gwZ ?_|(refine gwX ?_;intro Q hQ _;simp [hC,hY,h1,h2];refine gwq hQ ?_)|refine gwC ?_ ?_<;>intro hb))
   all_goals
    refine ⟨.inr trivial,?_⟩
    simp [results77,zch,h1,h3]
  ·have h3:x=y:=by omega
   subst h3
   (repeat' (first|refine gwZ ?_|(refine gwX ?_;intro Q hQ _;simp [hC,hY,h1];refine gwq hQ ?_)|refine gwC ?_ ?_<;>intro hb))
   all_goals
    refine ⟨.inr trivial,?_⟩
    simp [results77,zch]
@[simp] theorem jna (x y:Int) (K:Value->Prop):zbe prog G0 77 #[.int .i64 x,.int .i64 y] K↔K (.int .i64 (zch x y)):=zaf G0W (by kernel_rfl) (zzf x y)
theorem zzg (x y:Int):Ret prog G0 78 #[.int .u64 x,.int .u64 y] (.int .i64 (zch x y)):=by
 refine za2 G0F func78 rfl call78 rfl (by simp) (by simp [ntmps78]) ?_
 intro C hC hC0 hY
 by_cases h1:x<y
 ·(repeat' (first|refine gwZ ?_|(refine gwX ?_;intro Q hQ _;simp [hC,hY,h1];refine gwq hQ ?_)|refine gwC ?_ ?_<;>intro hb))
  all_goals
   refine ⟨.inr trivial,?_⟩
   simp [results78,zch,h1]
 ·by_cases h2:y<x
  ·have h3:¬x=y:=by omega
   (repeat' (first|refine gwZ ?_|(refine gwX ?_;intro Q hQ _;simp [hC,hY,h1,h2];refine gwq hQ ?_)|refine gwC ?_ ?_<;>intro hb))
   all_goals
    refine ⟨.inr trivial,?_⟩
    simp [results78,zch,h1,h3]
  ·have h3:x=y:=by omega
   subst h3
   (repeat' (first|refine gwZ ?_|(refine gwX ?_;intro Q hQ _;simp [hC,hY,h1];refine gwq hQ ?_)|refine gwC ?_ ?_<;>intro hb))
   all_goals
    refine ⟨.inr trivial,?_⟩
    simp [results78,zch]
@[simp] theorem jnb (x y:Int) (K:Value->Prop):zbe prog G0 78 #[.int .u64 x,.int .u64 y] K↔K (.int .i64 (zch x y)):=zaf G0W (by kernel_rfl) (zzg x y)

def zgj (a b:Int) (j:Nat):Int:=if j=0 then zch (Int.bmod (wi a 3) 18446744073709551616) (Int.bmod (wi b 3) 18446744073709551616) else zch (wi a (3 - j)) (wi b (3 - j))
def zrn (a b:Int) (j:Nat):GS :=
 ⟨tsL [(2,.pointer (some ⟨200,0,none⟩)),(3,.pointer (some ⟨208,0,none⟩)),(5,.int .i64 (zgj a b j)),(6,.int .i64 (2 - j))],hpL G0 [(200,wb a),(208,wb b)],300,0⟩
theorem zu7 {x y:Int}:zch x y=0↔x=y:=by unfold zch;split<;>(try split)<;>omega
theorem bm3 (z:Int):Int.bmod (wi z 3) 18446744073709551616=wi z 3 - (if ng z then 18446744073709551616 else 0):=by
 have:=zbk z 3;have:=zbp z 3
 rw [Int.bmod_def];unfold ng;simp only [decide_eq_true_eq];split<;>split<;>omega
theorem jds (z:Int):∃ r,sz z=Int.bmod (wi z 3) 18446744073709551616*6277101735386680763835789423207666416102355444464034512896+r/\r=wi z 0+18446744073709551616*wi z 1+340282366920938463463374607431768211456*wi z 2/\0<=r/\r<6277101735386680763835789423207666416102355444464034512896:=by
 refine ⟨_,?_,rfl,?_,?_⟩
 ·rw [z7b,bm3];split<;>omega
 ·have:=zbk z 0;have:=zbk z 1;have:=zbk z 2;omega
 ·have:=zbp z 0;have:=zbp z 1;have:=zbp z 2;omega
theorem zlk {x y u v:Int} (h1:x<y↔u<v) (h2:x=y↔u=v):zch x y=zch u v:=by
 unfold zch;simp only [h1,h2]
theorem z4y (a b:Int) (k:Nat) (hk:k=(if zgj a b 0=0 then if zgj a b 1=0 then if zgj a b 2=0 then 3 else 2 else 1 else 0)):zgj a b k=zch (sz a) (sz b):=by
 obtain ⟨r,ea,er,r0,r1⟩:=jds a
 obtain ⟨q,eb,eq,q0,q1⟩:=jds b
 have z0:zgj a b 0=0↔Int.bmod (wi a 3) 18446744073709551616=Int.bmod (wi b 3) 18446744073709551616:=by simp only [zgj,if_true,zu7]
 have z1:zgj a b 1=0↔wi a 2=wi b 2:=by simp [zgj,zu7]
 have z2:zgj a b 2=0↔wi a 1=wi b 1:=by simp [zgj,zu7]
 simp only [z0,z1,z2] at hk
 have:=zbk a 0;have:=zbp a 0;have:=zbk a 1;have:=zbp a 1;have:=zbk a 2;have:=zbp a 2
 have:=zbk b 0;have:=zbp b 0;have:=zbk b 1;have:=zbp b 1;have:=zbk b 2;have:=zbp b 2
 clear z0 z1 z2
 by_cases h0:Int.bmod (wi a 3) 18446744073709551616=Int.bmod (wi b 3) 18446744073709551616
 ·rw [if_pos h0] at hk
  rw [h0] at ea
  by_cases h1:wi a 2=wi b 2
  ·rw [if_pos h1] at hk
   by_cases h2:wi a 1=wi b 1
   ·rw [if_pos h2] at hk
    subst hk
    simp only [zgj]
    exact zlk (by first|omega|(simp;omega)) (by first|omega|(simp;omega))
   ·rw [if_neg h2] at hk
    subst hk
    simp only [zgj]
    exact zlk (by first|omega|(simp;omega)) (by first|omega|(simp;omega))
  ·rw [if_neg h1] at hk
   subst hk
   simp only [zgj]
   exact zlk (by first|omega|(simp;omega)) (by first|omega|(simp;omega))
 ·rw [if_neg h0] at hk
  subst hk
  simp only [zgj]
  exact zlk (by first|omega|(simp;omega)) (by first|omega|(simp;omega))
theorem z1u (a b:Int):Ret prog G0 45 #[wd a,wd b] (.int .i64 (zch (sz a) (sz b))):=by
 refine za2 G0F func45 rfl call45 (by simp) (by simp) (by simp [ntmps45]) ?_
 intro C hC hC0 hY
 repeat' first|refine gwZ ?_|refine gwW ?_|refine gwC ?_ ?_<;>intro hb
 have e3:∀ z,Int.bmod (wi z 3) 18446744073709551616=wi z 3 - (if ng z then 18446744073709551616 else 0):=λz=>by
  have:=zbk z 3;have:=zbp z 3
  rw [Int.bmod_def];unfold ng;simp only [decide_eq_true_eq];split<;>split<;>omega
 refine zc3 (if zgj a b 0=0 then if zgj a b 1=0 then if zgj a b 2=0 then 3 else 2 else 1 else 0) (zrn a b) ?_ ?_ ?_
 ·refine zbi _ 300 hC G0F (m0:=[]) hC0 (by omega) ?_ ?_ ?_
  ·simp [zan,za0,zah,zal,dom,zgj]
  ·simp [zac,zah,zal,wb]
  ·simp
 ·intro i hi
  have:(i=0/\zgj a b 0=0)\/(i=1/\zgj a b 1=0)\/(i=2/\zgj a b 2=0):=by (repeat' split at hi)<;>omega
  rcases this with ⟨rfl,h⟩|⟨rfl,h⟩|⟨rfl,h⟩<;>unfold zrn
  all_goals
   repeat' first|refine gwZ ?_|(refine gwX ?_;intro Q hQ _;simp [hC,hY,h,wb];refine gwq hQ ?_)|refine gwC ?_ ?_<;>intro hb
  all_goals
   refine zbi _ 300 hC G0F (m0:=[]) hC0 (by omega) ?_ ?_ ?_
   ·simp [zan,za0,zah,zal,dom,zgj]
   ·simp [zac,zah,zal,wb]
   ·simp
 ·have f1:=z7b a
  have f2:=z7b b
  have g1:=e3 a
  have g2:=e3 b
  have:=zbk a 0;have:=zbp a 0;have:=zbk a 1;have:=zbp a 1;have:=zbk a 2;have:=zbp a 2;have:=zbk a 3;have:=zbp a 3
  have:=zbk b 0;have:=zbp b 0;have:=zbk b 1;have:=zbp b 1;have:=zbk b 2;have:=zbp b 2;have:=zbk b 3;have:=zbp b 3
  have key:∀ k,k=(if zgj a b 0=0 then if zgj a b 1=0 then if zgj a b 2=0 then 3 else 2 else 1 else 0)->zgj a b k=zch (sz a) (sz b):=λk hk=>by
   exact z4y a b k hk
  have hk:=key _ rfl
  generalize hN:(if zgj a b 0=0 then if zgj a b 1=0 then if zgj a b 2=0 then 3 else 2 else 1 else 0)=N at *
  have hc:zgj a b N≠0\/N=3:=by (repeat' split at hN)<;>subst hN<;>first|(left;assumption)|(right;rfl)
  by_cases hz:zgj a b N=0
  ·have h3:N=3:=hc.resolve_left (λh=>h hz)
   subst h3
   unfold zrn
   repeat' first|refine gwZ ?_|(refine gwX ?_;intro Q hQ _;simp [hC,hY,hz,wb];refine gwq hQ ?_)|refine gwC ?_ ?_<;>intro hb
   refine ⟨.inr trivial,?_⟩
   simp [results45,<-hk,hz]
  ·have hzb:(zgj a b N==0)=false:=by simpa using hz
   unfold zrn
   repeat' first|refine gwZ ?_|(refine gwX ?_;intro Q hQ _;simp [hC,hY,hzb,wb];refine gwq hQ ?_)|refine gwC ?_ ?_<;>intro hb
   refine ⟨.inr trivial,?_⟩
   simp [results45,hk]
@[simp] theorem jm1 (a b:Int) (K:Value->Prop):zbe prog G0 45 #[Value.agg #[.int .u64 (wi (a) 0),.int .u64 (wi (a) 1),.int .u64 (wi (a) 2),.int .u64 (wi (a) 3)],Value.agg #[.int .u64 (wi (b) 0),.int .u64 (wi (b) 1),.int .u64 (wi (b) 2),.int .u64 (wi (b) 3)]] K↔K (.int .i64 (zch (sz a) (sz b))):=zaf G0W (by kernel_rfl) (z1u a b)
@[simp] theorem jm2 (a:Int) (K:Value->Prop):zbe prog G0 45 #[Value.agg #[.int .u64 (wi (a) 0),.int .u64 (wi (a) 1),.int .u64 (wi (a) 2),.int .u64 (wi (a) 3)],.agg #[.int .u64 0,.int .u64 0,.int .u64 0,.int .u64 0]] K↔K (.int .i64 (zch (sz a) 0)):=by
 have:=jm1 a 0 K
 have e:sz 0=0:=by decide
 rw [e] at this
 simpa using this
theorem zx5 (a:Int):Ret prog G0 167 #[wd a] (.int .i64 (zch (sz a) 0)):=by
 refine za2 G0F func167 rfl call167 (by simp) (by simp) (by simp [ntmps167]) ?_
 intro C hC hC0 hY
 repeat' first|refine gwZ ?_|refine gwW ?_|refine gwC ?_ ?_<;>intro hb
 refine ⟨.inr trivial,?_⟩
 simp [results167]
@[simp] theorem jm3 (a:Int) (K:Value->Prop):zbe prog G0 167 #[Value.agg #[.int .u64 (wi (a) 0),.int .u64 (wi (a) 1),.int .u64 (wi (a) 2),.int .u64 (wi (a) 3)]] K↔K (.int .i64 (zch (sz a) 0)):=zaf G0W (by kernel_rfl) (zx5 a)
end Go.Gy
namespace Go.Gy
open Go Go.RowKit
theorem zb8 (i:Nat):(0:Int)<2^(64*i):=Int.pow_pos (by decide)
theorem zh6 (i:Nat):(2:Int)^(64*(i+1))=2^(64*i)*18446744073709551616:=by
 rw [Nat.mul_add,Int.pow_add];rfl
def zb0 (A B:Int) (i:Nat):Int:=(A%2^(64*i))*B
def zea (A B:Int) (i k:Nat):Int:=(zb0 A B i%2^(64*(i+k))+2^(64*i)*wi A i*(B%2^(64*k))) / 2^(64*(i+k))
def zdc (A B:Int) (i k j:Nat):Int:=if i<=j/\j<i+k then wi (zb0 A B (i+1)) j else wi (zb0 A B i) j
theorem zid (A B:Int) (i:Nat):zb0 A B (i+1)=zb0 A B i+2^(64*i)*wi A i*B:=by
 unfold zb0 wi
 rw [zh6,zg4 A _ _ (zb8 i) (by omega),Int.add_mul]
theorem zgh (A B:Int) (i:Nat):zea A B i 0=0:=by
 unfold zea
 have h1:=Int.emod_lt_of_pos (zb0 A B i) (zb8 (i+0))
 have h2:=Int.emod_nonneg (zb0 A B i) (b:=2^(64*(i+0))) (by have:=zb8 (i+0);omega)
 simp only [Nat.mul_zero,Int.pow_zero,Int.emod_one,Int.mul_zero,Int.add_zero]
 exact Int.ediv_eq_zero_of_lt h2 h1
theorem zgg (A B:Int) (i k:Nat):0<=zea A B i k/\zea A B i k<18446744073709551616:=by
 unfold zea
 have hM:(2:Int)^(64*(i+k))=2^(64*i)*2^(64*k):=by rw [Nat.mul_add,Int.pow_add]
 have p1:=zb8 i
 have p2:=zb8 k
 have p3:=zb8 (i+k)
 generalize hz:zb0 A B i=z
 have h1:=Int.emod_lt_of_pos z p3
 have h2:=Int.emod_nonneg z (b:=2^(64*(i+k))) (by omega)
 have h3:=Int.emod_lt_of_pos B p2
 have h4:=Int.emod_nonneg B (b:=2^(64*k)) (by omega)
 have h5:=zbk A i
 have h6:=zbp A i
 have h7:0<=2^(64*i)*wi A i*(B%2^(64*k)):=Int.mul_nonneg (Int.mul_nonneg (by omega) h5) h4
 have h8:2^(64*i)*wi A i*(B%2^(64*k))<=2^(64*i)*18446744073709551615*2^(64*k) :=
  Int.mul_le_mul (Int.mul_le_mul_of_nonneg_left (by omega) (by omega)) (by omega) h4 (Int.mul_nonneg (by omega) (by omega))
 have h9:(2:Int)^(64*i)*18446744073709551615*2^(64*k)=18446744073709551615*2^(64*(i+k)):=by
  rw [hM,Int.mul_comm (2^(64*i)) 18446744073709551615,Int.mul_assoc]
 refine ⟨Int.ediv_nonneg (by omega) (by omega),Int.ediv_lt_of_lt_mul p3 (by omega)⟩
theorem ztx (A B:Int) (i k:Nat):(wi (zb0 A B i) (i+k)+wi A i*wi B k+zea A B i k) / 18446744073709551616=zea A B i (k+1):=by
 have hM:(2:Int)^(64*(i+k))=2^(64*i)*2^(64*k):=by rw [Nat.mul_add,Int.pow_add]
 have p2:=zb8 k
 have p3:=zb8 (i+k)
 unfold zea
 rw [show i+(k+1)=(i+k)+1 by omega,zh6,zh6,zg4 _ _ _ p3 (by omega),zg4 B _ _ p2 (by omega)]
 generalize hz:zb0 A B i=z
 unfold wi
 generalize hD:(2:Int)^(64*(i+k))=M at *
 have e:z%M+M*(z / M%18446744073709551616)+2^(64*i)*(A / 2^(64*i)%18446744073709551616)*(B%2^(64*k)+2^(64*k)*(B / 2^(64*k)%18446744073709551616)) =
   (z%M+2^(64*i)*(A / 2^(64*i)%18446744073709551616)*(B%2^(64*k)))+M*(z / M%18446744073709551616+A / 2^(64*i)%18446744073709551616*(B / 2^(64*k)%18446744073709551616)):=by
  rw [hM]
  generalize (2:Int)^(64*i)=P
  generalize (2:Int)^(64*k)=Q
  generalize A / P%18446744073709551616=a
  generalize B / Q%18446744073709551616=b
  generalize B%Q=c
  generalize z%(P*Q)=u
  generalize z / (P*Q)%18446744073709551616=v
  have:P*a*(c+Q*b)=P*a*c+P*Q*(a*b):=by
   rw [Int.mul_add]
   congr 1
   rw [Int.mul_assoc P a,Int.mul_assoc P Q]
   congr 1
   rw [<-Int.mul_assoc,<-Int.mul_assoc,Int.mul_comm a Q]
  rw [this,Int.mul_add]
  omega
 rw [e,<-Int.ediv_ediv_of_nonneg (Int.le_of_lt p3),Int.add_mul_ediv_left _ _ (by omega)]
 congr 1
 omega
theorem jj0 (A B:Int) (i k:Nat):(wi (zb0 A B i) (i+k)+wi A i*wi B k+zea A B i k)%18446744073709551616=wi (zb0 A B (i+1)) (i+k):=by
 have hM:(2:Int)^(64*(i+k))=2^(64*i)*2^(64*k):=by rw [Nat.mul_add,Int.pow_add]
 have p3:=zb8 (i+k)
 rw [zid]
 unfold zea
 generalize hz:zb0 A B i=z
 unfold wi
 generalize hD:(2:Int)^(64*(i+k))=M at *
 have h1:=Int.emod_add_mul_ediv z M
 have h2:=Int.emod_add_mul_ediv B (2^(64*k))
 have h3:=Int.emod_add_mul_ediv (B / 2^(64*k)) 18446744073709551616
 have e:z+2^(64*i)*(A / 2^(64*i)%18446744073709551616)*B=(z%M+2^(64*i)*(A / 2^(64*i)%18446744073709551616)*(B%2^(64*k))) +
   M*(z / M+A / 2^(64*i)%18446744073709551616*(B / 2^(64*k)%18446744073709551616)+18446744073709551616*(A / 2^(64*i)%18446744073709551616*(B / 2^(64*k) / 18446744073709551616))):=by
  have hB:B=B%2^(64*k)+2^(64*k)*(B / 2^(64*k)%18446744073709551616+18446744073709551616*(B / 2^(64*k) / 18446744073709551616)):=by rw [h3];omega
  generalize B / 2^(64*k)%18446744073709551616=b at *
  generalize B / 2^(64*k) / 18446744073709551616=h at *
  generalize B%2^(64*k)=c at *
  rw [hM]
  rw [hM] at h1
  generalize (2:Int)^(64*i)=P at *
  generalize (2:Int)^(64*k)=Q at *
  generalize A / P%18446744073709551616=a
  rw [hB]
  have:P*a*(c+Q*(b+18446744073709551616*h))=P*a*c+P*Q*(a*b)+P*Q*(18446744073709551616*(a*h)):=by
   rw [Int.mul_add,Int.mul_add Q,Int.mul_add]
   have e1:P*a*(Q*b)=P*Q*(a*b):=by
    rw [Int.mul_assoc P a,Int.mul_assoc P Q];congr 1;rw [<-Int.mul_assoc,<-Int.mul_assoc,Int.mul_comm a Q]
   have e2:P*a*(Q*(18446744073709551616*h))=P*Q*(18446744073709551616*(a*h)):=by
    rw [Int.mul_assoc P a,Int.mul_assoc P Q];congr 1
    rw [Int.mul_left_comm a Q];congr 1
    rw [Int.mul_left_comm]
   rw [e1,e2];omega
  rw [this,Int.mul_add,Int.mul_add]
  omega
 rw [e,Int.add_mul_ediv_left _ _ (by omega)]
 omega
theorem zrr (A B:Int) (i:Nat) (h0:0<=B) (h1:B<2^(64*4)):0<=zb0 A B i/\zb0 A B i<2^(64*(i+4)):=by
 have p1:=zb8 i
 have h2:=Int.emod_nonneg A (b:=2^(64*i)) (by omega)
 have h3:=Int.emod_lt_of_pos A p1
 unfold zb0
 refine ⟨Int.mul_nonneg h2 h0,?_⟩
 rw [Nat.mul_add,Int.pow_add]
 generalize (2:Int)^(64*i)=P at *
 generalize (2:Int)^(64*4)=Q at *
 have h4:A%P*B<=A%P*Q:=Int.mul_le_mul_of_nonneg_left (by omega) h2
 have h5:A%P*Q<P*Q:=Int.mul_lt_mul_of_pos_right h3 (by omega)
 omega
theorem zx4 (A B:Int) (i:Nat) (h0:0<=B) (h1:B<2^(64*4)):zea A B i 4=wi (zb0 A B (i+1)) (i+4):=by
 have hb:=zgg A B i 4
 have hz:=zrr A B i h0 h1
 unfold zea at *
 rw [Int.emod_eq_of_lt hz.1 hz.2,Int.emod_eq_of_lt h0 h1,<-zid] at *
 unfold wi
 omega
theorem zrq (A B:Int) (i j:Nat) (h0:0<=B) (h1:B<2^(64*4)) (hj:i+4<=j):wi (zb0 A B i) j=0:=by
 have hz:=zrr A B i h0 h1
 have e:(2:Int)^(64*j)=2^(64*(i+4))*2^(64*(j - (i+4))):=by rw [<-Int.pow_add];congr 1;omega
 have p:=zb8 (j - (i+4))
 unfold wi
 rw [Int.ediv_eq_zero_of_lt hz.1]
 ·rfl
 ·rw [e]
  have:(2:Int)^(64*(i+4))*1<=2^(64*(i+4))*2^(64*(j - (i+4))):=Int.mul_le_mul_of_nonneg_left (by omega) (by have:=zb8 (i+4);omega)
  omega
theorem zx3 (A B:Int) (i j:Nat) (hj:j<i):wi (zb0 A B (i+1)) j=wi (zb0 A B i) j:=by
 rw [zid]
 unfold wi
 have e:(2:Int)^(64*i)=2^(64*j)*(18446744073709551616*2^(64*(i - j - 1))):=by
  rw [show (18446744073709551616:Int)=2^64 by rfl,<-Int.pow_add,<-Int.pow_add];congr 1;omega
 rw [e,Int.mul_assoc,Int.mul_assoc (2^(64*j)),Int.mul_assoc 18446744073709551616,Int.add_mul_ediv_left _ _ (by have:=zb8 j;omega)]
 omega
theorem zgi (A B:Int) (i k:Nat):∀ j,upd (zdc A B i k) (i+k) (wi (zb0 A B (i+1)) (i+k)) j=zdc A B i (k+1) j:=λj=>by
 unfold upd zdc
 by_cases e:j=i+k
 ·subst e;simp
 ·rw [if_neg e]
  by_cases h:i<=j/\j<i+k
  ·rw [if_pos h,if_pos (by omega)]
  ·rw [if_neg h,if_neg (by omega)]
theorem zhq (A B:Int) (i:Nat) (h0:0<=B) (h1:B<2^(64*4)):∀ j,upd (zdc A B i 4) (i+4) (zea A B i 4) j=wi (zb0 A B (i+1)) j:=λj=>by
 unfold upd zdc
 by_cases e:j=i+4
 ·subst e;rw [if_pos rfl,zx4 A B i h0 h1]
 ·rw [if_neg e]
  by_cases h:i<=j/\j<i+4
  ·rw [if_pos h]
  ·rw [if_neg h]
   by_cases hj:j<i
   ·exact (zx3 A B i j hj).symm
   ·rw [zrq A B i j h0 h1 (by omega),zrq A B (i+1) j h0 h1 (by omega)]
@[simp] theorem jgy (A B:Int) (i k:Nat):zdc A B i k (i+k)=wi (zb0 A B i) (i+k):=by unfold zdc;rw [if_neg (by omega)]

theorem jj2 (x y d c:Int) (hx:0<=x/\x<18446744073709551616) (hy:0<=y/\y<18446744073709551616) (hd:0<=d/\d<18446744073709551616) (hc:0<=c/\c<18446744073709551616) :
  ((x*y%18446744073709551616+d)%18446744073709551616+c)%18446744073709551616=(d+x*y+c)%18446744073709551616 /\
  ((x*y / 18446744073709551616+(x*y%18446744073709551616+d) / 18446744073709551616)%18446744073709551616+((x*y%18446744073709551616+d)%18446744073709551616+c) / 18446744073709551616)%18446744073709551616=(d+x*y+c) / 18446744073709551616:=by
 have h1:0<=x*y:=Int.mul_nonneg hx.1 hy.1
 have h2:x*y<=18446744073709551615*18446744073709551615:=Int.mul_le_mul (by omega) (by omega) hy.1 (by omega)
 generalize x*y=p at *
 omega
end Go.Gy
namespace Go.Gy
open Go Go.RowKit Go.Proofs Go.Proofs.Tryz
@[simp] theorem jh8 (D:Nat->Prop) (n:Nat) (k:IntKind) (f:Nat->Int):zan D (.agg (fa n k f))↔True:=by
 refine ⟨λ_=>trivial,λ_ x hx=>?_⟩
 obtain ⟨m,rfl⟩:=zkh hx
 trivial
theorem zo1 (z:Int) (h0:0<=z) (h1:z<18446744073709551616):zdr .and .u64 z 4294967295=z%4294967296:=by
 rw [<-and_low32 z h0 h1];rfl
theorem zwj (x y:Int) (hx0:0<=x) (hx:x<18446744073709551616) (hy0:0<=y) (hy:y<18446744073709551616):Ret prog G0 127 #[.int .u64 x,.int .u64 y] (.tuple #[.int .u64 (x*y / 18446744073709551616),.int .u64 (x*y%18446744073709551616)]):=by
 refine za2 G0F func127 rfl call127 (by simp) (by simp) (by simp [ntmps127]) ?_
 intro C hC hC0 hY
 have f32:∀ z:Int,z.fdiv 4294967296=z / 4294967296:=λz=>Int.fdiv_eq_ediv_of_nonneg z (by omega)
 have a1:=zo1 x hx0 hx
 have a2:=zo1 y hy0 hy
 have a3:∀ z:Int,zdr .and .u64 (z%18446744073709551616) 4294967295=z%18446744073709551616%4294967296:=λz=>zo1 _ (by omega) (by omega)
 repeat' first|refine gwZ ?_|(refine gwX ?_;intro Q hQ _;simp [hC,hY,f32,a1,a2,a3];refine gwq hQ ?_)|refine gwC ?_ ?_<;>intro hb
 refine ⟨.inr trivial,?_⟩
 have:=mul64_arith x y hx0 hx hy0 hy
 simpa [results127] using this
@[simp] theorem jma (x y:Int) (hx0:0<=x) (hx:x<18446744073709551616) (hy0:0<=y) (hy:y<18446744073709551616) (K:Value->Prop):zbe prog G0 127 #[.int .u64 x,.int .u64 y] K↔K (.tuple #[.int .u64 (x*y / 18446744073709551616),.int .u64 (x*y%18446744073709551616)]):=zaf G0W (by kernel_rfl) (zwj x y hx0 hx hy0 hy)
theorem z32 (z y:Int) (k:Nat) (h:z%115792089237316195423570985008687907853269984665640564039457584007913129639936=y%115792089237316195423570985008687907853269984665640564039457584007913129639936) (hk:k<4):wi z k=wi y k:=by
 have:k=0\/k=1\/k=2\/k=3:=by omega
 rcases this with rfl|rfl|rfl|rfl<;>simp only [wi]<;>omega
theorem z2b (z:Int) (h:ng z=true) (k:Nat) (hk:k<4):wi (-z) k=wi (um z) k:=z32 _ _ _ (by
 rw [zfx] at h;simp at h;have:=zxj z;unfold um;rw [if_pos h];omega) hk
theorem z2a (z:Int) (h:ng z=false) (k:Nat) (hk:k<4):wi z k=wi (um z) k:=z32 _ _ _ (by
 rw [zfx] at h;simp at h;have:=zxj z;unfold um;rw [if_neg (by omega)];omega) hk
theorem z12 (A B:Int) (i k:Nat):0<=wi A i*wi B k/\0<=wi A i*wi B k%18446744073709551616/\0<=(wi A i*wi B k+wi (zb0 A B i) (i+k))%18446744073709551616:=by
 have h1:=zbk A i;have h2:=zbk B k
 exact ⟨Int.mul_nonneg h1 h2,Int.emod_nonneg _ (by omega),Int.emod_nonneg _ (by omega)⟩
theorem z10 (A B:Int) (i k:Nat):(wi A i*wi B k+wi (zb0 A B i) (i+k)+zea A B i k)%18446744073709551616=wi (zb0 A B (i+1)) (i+k):=by
 rw [<-jj0 A B i k];congr 1;omega
theorem z1v (A B:Int) (i k:Nat):(wi A i*wi B k / 18446744073709551616+(wi A i*wi B k%18446744073709551616+wi (zb0 A B i) (i+k)) / 18446744073709551616+((wi A i*wi B k+wi (zb0 A B i) (i+k))%18446744073709551616+zea A B i k) / 18446744073709551616)%18446744073709551616=zea A B i (k+1):=by
 have h:=(jj2 (wi A i) (wi B k) (wi (zb0 A B i) (i+k)) (zea A B i k) ⟨zbk _ _,zbp _ _⟩ ⟨zbk _ _,zbp _ _⟩ ⟨zbk _ _,zbp _ _⟩ (zgg A B i k)).2
 rw [<-ztx,<-h]
 simp
def zt3 (q:Nat) (mi:Bool) (A B:Int) (i:Nat):GS :=
 ⟨tsL [(2,.pointer (some ⟨200,0,none⟩)),(3,.pointer (some ⟨208,0,none⟩)),(4,.pointer (some ⟨216,0,none⟩)),(6,.bool mi),(7,.pointer (some ⟨q,0,none⟩)),(40,.agg (fa 4 .u64 (wi A))),(41,.int .i64 i)],
 hpL G0 [(200,⟨fa 4 .u64 (wi A),.ty 30⟩),(208,⟨fa 4 .u64 (wi B),.ty 30⟩),(216,⟨fa 4 .u64 λ_=>0,.ty 30⟩),(q,⟨fa 8 .u64 (wi (zb0 A B i)),.ty 96⟩)],600,0⟩
def zim (q:Nat) (mi:Bool) (A B:Int) (i k:Nat):GS :=
 ⟨tsL [(2,.pointer (some ⟨200,0,none⟩)),(3,.pointer (some ⟨208,0,none⟩)),(4,.pointer (some ⟨216,0,none⟩)),(6,.bool mi),(7,.pointer (some ⟨q,0,none⟩)),(40,.agg (fa 4 .u64 (wi A))),(41,.int .i64 i),
   (8,.int .i64 i),(9,.int .u64 (wi A i)),(10,.int .u64 (zea A B i k)),(45,.agg (fa 4 .u64 (wi B))),(46,.int .i64 k)],
 hpL G0 [(200,⟨fa 4 .u64 (wi A),.ty 30⟩),(208,⟨fa 4 .u64 (wi B),.ty 30⟩),(216,⟨fa 4 .u64 λ_=>0,.ty 30⟩),(q,⟨fa 8 .u64 (zdc A B i k),.ty 96⟩)],600,0⟩
theorem zps {x y:Int} (hx0:0<=x) (hx:x<18446744073709551616) (hy0:0<=y) (hy:y<18446744073709551616):(zdr .or .u64 x y=0↔x=0/\y=0)/\0<=zdr .or .u64 x y/\zdr .or .u64 x y<18446744073709551616:=by
 have e:zdr .or .u64 x y=((BitVec.ofInt 64 x ||| BitVec.ofInt 64 y:BitVec 64).toNat:Int)%18446744073709551616:=by
  unfold zdr
  show IntKind.u64.wrap ((BitVec.ofInt 64 x ||| BitVec.ofInt 64 y:BitVec 64).toNat:Int)=_
  rw [zmn]
 have hx':(BitVec.ofInt 64 x).toNat=x.toNat:=by
  rw [BitVec.toNat_ofInt];congr 1;exact Int.emod_eq_of_lt hx0 hx
 have hy':(BitVec.ofInt 64 y).toNat=y.toNat:=by
  rw [BitVec.toNat_ofInt];congr 1;exact Int.emod_eq_of_lt hy0 hy
 have hb:=(BitVec.ofInt 64 x ||| BitVec.ofInt 64 y).isLt
 rw [e]
 refine ⟨?_,Int.emod_nonneg _ (by omega),Int.emod_lt_of_pos _ (by omega)⟩
 rw [Int.emod_eq_of_lt (by omega) (by omega),BitVec.toNat_or,hx',hy']
 constructor
 ·intro h
  have h1:x.toNat ||| y.toNat=0:=by omega
  have:=Nat.or_eq_zero_iff.1 h1
  omega
 ·rintro ⟨rfl,rfl⟩;rfl
theorem zi3 (D:Int) (j:Nat) (h:4<=j:=by omega):wi D j=wi (D / 115792089237316195423570985008687907853269984665640564039457584007913129639936) (j - 4):=by
 unfold wi
 have e:64*j=64*4+64*(j - 4):=by omega
 rw [e,Int.pow_add,<-Int.ediv_ediv_of_nonneg (Int.le_of_lt (zb8 4))]
 rfl
def ovD (D:Int):Bool:=decide (115792089237316195423570985008687907853269984665640564039457584007913129639936<=D)
def orW (D:Int):Int:=zdr .or .u64 (zdr .or .u64 (zdr .or .u64 (wi D 4) (wi D 5)) (wi D 6)) (wi D 7)
theorem ji3 (D:Int) (h0:0<=D) (h1:D<115792089237316195423570985008687907853269984665640564039457584007913129639936*115792089237316195423570985008687907853269984665640564039457584007913129639936) :
  (!orW D==0)=ovD D:=by
 unfold orW
 have o1:=zps (zbk D 4) (zbp D 4) (zbk D 5) (zbp D 5)
 have o2:=zps o1.2.1 o1.2.2 (zbk D 6) (zbp D 6)
 have o3:=zps o2.2.1 o2.2.2 (zbk D 7) (zbp D 7)
 rw [Bool.eq_iff_iff]
 simp only [Bool.not_eq_true',beq_eq_false_iff_ne,ne_eq,ovD,decide_eq_true_eq]
 rw [o3.1,o2.1,o1.1,zi3 D 4,zi3 D 5,zi3 D 6,zi3 D 7]
 have hE:0<=D / 115792089237316195423570985008687907853269984665640564039457584007913129639936/\D / 115792089237316195423570985008687907853269984665640564039457584007913129639936<115792089237316195423570985008687907853269984665640564039457584007913129639936:=⟨by omega,by omega⟩
 have hD:115792089237316195423570985008687907853269984665640564039457584007913129639936<=D↔D / 115792089237316195423570985008687907853269984665640564039457584007913129639936≠0:=by omega
 rw [hD]
 generalize D / 115792089237316195423570985008687907853269984665640564039457584007913129639936=E at *
 simp only [wi]
 omega
theorem z11 (a b:Int):Ret prog G0 101 #[wd a,wd b] (.tuple #[wd (sz a*sz b),.bool (zot a b)]):=by
 refine za2 G0F func101 rfl call101 (by simp) (by simp) (by simp [ntmps101]) ?_
 intro C hC hC0 hY
 have hA:=jdx a
 have hB:=jdx b
 have hB0:0<=um b:=hB.1
 have hB1:um b<2^(64*4):=by have:=hB.2;omega
 obtain ⟨D,hD⟩:∃ D,um a*um b=D:=⟨_,rfl⟩
 have eD:zb0 (um a) (um b) 4=D:=by rw [<-hD];unfold zb0;rw [Int.emod_eq_of_lt (by omega) (by omega)]
 have hbd:0<=D/\D<=57896044618658097711785492504343953926634992332820282019728792003956564819968*57896044618658097711785492504343953926634992332820282019728792003956564819968:=by
  rw [<-hD]
  exact ⟨Int.mul_nonneg hA.1 hB.1,Int.mul_le_mul hA.2 hB.2 hB.1 (by omega)⟩
 have hor:=ji3 D hbd.1 (by have:=hbd.2;omega)
 have hs1:=zwt a b
 have hs2:=zta a b
 rw [hD] at hs1 hs2
 cases ha:ng a<;>cases hq:ng b
 all_goals
  repeat' first|refine gwZ ?_|(refine gwX ?_;intro Q hQ _;simp [hC,hY,ha,hq];refine gwq hQ ?_)|refine gwC ?_ ?_<;>intro hb
 ·have hn:(ng a==ng b)=true:=by rw [ha,hq];rfl
  refine zc3 4 (zt3 312 false (um a) (um b)) ?_ ?_ ?_
  ·have e1:=z2a a ha
   have e2:=z2a b hq
   refine zbi _ 600 hC G0F (m0:=[]) hC0 (by omega) ?_ ?_ ?_
   ·simp [dom,zjt,e1]
   ·simp [zdd,zjt,zqm,e1,e2,zb0,Int.emod_one,zar]
   ·simp
  ·intro i hi
   have hi':(i:Int)<4:=by omega
   have hz:(0:Int)<=i:=by omega
   have hs:Int.bmod ((i:Int)+1) 18446744073709551616=((i+1:Nat):Int):=by rw [bm (by omega) (by omega)];rfl
   unfold zt3
   repeat' first|refine gwZ ?_|(refine gwX ?_;intro Q hQ _;simp [hC,hY,hi,hi',hz,hs,zdx];refine gwq hQ ?_)|refine gwC ?_ ?_<;>intro hb
   refine zc3 4 (zim 312 false (um a) (um b) i) ?_ ?_ ?_
   ·refine zbi _ 600 hC G0F (m0:=[]) hC0 (by omega) ?_ ?_ ?_
    ·simp [dom,zgh]
    ·have e:fa 8 .u64 (zdc (um a) (um b) i 0)=fa 8 .u64 (wi (zb0 (um a) (um b) i)):=zcv λj _=>by unfold zdc;rw [if_neg (by omega)]
     simp [e,zdd]
    ·simp
   ·intro k hk
    have hk':(k:Int)<4:=by omega
    have hkz:(0:Int)<=k:=by omega
    have hs2:Int.bmod ((k:Int)+1) 18446744073709551616=((k+1:Nat):Int):=by rw [bm (by omega) (by omega)];rfl
    have hik:Int.bmod ((i:Int)+k) 18446744073709551616=((i+k:Nat):Int):=by rw [bm (by omega) (by omega)];rfl
    have hik2:i+k<8:=by omega
    have hik3:(i:Int)+k<8:=by omega
    have hik4:(0:Int)<=(i:Int)+k:=by omega
    have hik5:((i:Int)+k).toNat=i+k:=by omega
    have hik6:(i:Int)+k<=7:=by omega
    have hik7:i+k<=7:=by omega
    have hn:=z12 (um a) (um b) i k
    have hc:=zgg (um a) (um b) i k
    unfold zim
    repeat' first|refine gwZ ?_|(refine gwX ?_;intro Q hQ _;simp [hC,hY,hi,hi',hz,hk,hk',hkz,hik,hik2,hik3,hik4,hik5,hik6,hik7,hs2,zdx,zg7,zbk,zbp,hn.1,hn.2.1,hn.2.2,hc.1];refine gwq hQ ?_)|refine gwC ?_ ?_<;>intro hb
    refine zbi _ 600 hC G0F (m0:=[]) hC0 (by omega) ?_ ?_ ?_
    ·simp [dom,hs2,z1v]
    ·have e:fa 8 .u64 (upd (zdc (um a) (um b) i k) (i+k) (wi (zb0 (um a) (um b) (i+1)) (i+k)))=fa 8 .u64 (zdc (um a) (um b) i (k+1)):=zcv λj _=>zgi (um a) (um b) i k j
     simp [zdd,z10,e]
    ·simp
   ·have hi8:Int.bmod ((i:Int)+4) 18446744073709551616=(i:Int)+4:=bm (by omega) (by omega)
    have hi9:(0:Int)<=(i:Int)+4:=by omega
    have hi10:((i:Int)+4).toNat=i+4:=by omega
    have hi11:(i:Int)+4<8:=by omega
    have hi12:(i:Int)<=3:=by omega
    have hi14:i<=3:=by omega
    have hi13:i+4<8:=by omega
    unfold zim
    repeat' first|refine gwZ ?_|(refine gwX ?_;intro Q hQ _;simp [hC,hY,hi,hi',hz,hs,hi8,hi9,hi10,hi11,hi12,hi13,hi14,zg7];refine gwq hQ ?_)|refine gwC ?_ ?_<;>intro hb
    refine zbi _ 600 hC G0F (m0:=[]) hC0 (by omega) ?_ ?_ ?_
    ·simp [dom,hs]
    ·have e:fa 8 .u64 (upd (zdc (um a) (um b) i 4) (i+4) (zea (um a) (um b) i 4))=fa 8 .u64 (wi (zb0 (um a) (um b) (i+1))):=zcv λj _=>zhq (um a) (um b) i hB0 hB1 j
     simp [zdd,e]
    ·simp
  ·unfold zt3
   rw [eD]
   by_cases hx:orW D=0
   ·have hov:ovD D=false:=by rw [<-hor];simp [hx]
    unfold orW at hx
    repeat' first|refine gwZ ?_|(refine gwX ?_;intro Q hQ _;simp [hC,hY,zqm,zjt,hx];refine gwq hQ ?_)|refine gwC ?_ ?_<;>intro hb
    refine ⟨.inr trivial,?_⟩
    rw [ovD] at hov
    simp [results101,hs1 hn,zot,hx]
    rw [Bool.eq_iff_iff]
    simp [zfx]
    have h3:=zgc D hbd.1 (by simpa using hov)
    simp at hov
    omega
   ·have hov:ovD D=true:=by rw [<-hor];simp [hx]
    unfold orW at hx
    have hx2:(zdr .or .u64 (zdr .or .u64 (zdr .or .u64 (wi D 4) (wi D 5)) (wi D 6)) (wi D 7)==0)=false:=by simpa using hx
    have hx3:(zdr .or .u64 (zdr .or .u64 (zdr .or .u64 (wi D 4) (wi D 5)) (wi D 6)) (wi D 7) != 0)=true:=by simpa using hx
    repeat' first|refine gwZ ?_|(refine gwX ?_;intro Q hQ _;simp [hC,hY,zqm,zjt,hx,hx2,hx3];refine gwq hQ ?_)|refine gwC ?_ ?_<;>intro hb
    refine ⟨.inr trivial,?_⟩
    rw [ovD] at hov
    simp [results101,hs1 hn,zot,hx]
    simp at hov
    omega
 ·have hn:(ng a==ng b)=false:=by rw [ha,hq];rfl
  refine zc3 4 (zt3 360 true (um a) (um b)) ?_ ?_ ?_
  ·have e1:=z2a a ha
   have e2:=z2b b hq
   refine zbi _ 600 hC G0F (m0:=[]) hC0 (by omega) ?_ ?_ ?_
   ·simp [dom,zjt,e1]
   ·simp [zdd,zjt,zqm,e1,e2,zb0,Int.emod_one,zar]
   ·simp
  ·intro i hi
   have hi':(i:Int)<4:=by omega
   have hz:(0:Int)<=i:=by omega
   have hs:Int.bmod ((i:Int)+1) 18446744073709551616=((i+1:Nat):Int):=by rw [bm (by omega) (by omega)];rfl
   unfold zt3
   repeat' first|refine gwZ ?_|(refine gwX ?_;intro Q hQ _;simp [hC,hY,hi,hi',hz,hs,zdx];refine gwq hQ ?_)|refine gwC ?_ ?_<;>intro hb
   refine zc3 4 (zim 360 true (um a) (um b) i) ?_ ?_ ?_
   ·refine zbi _ 600 hC G0F (m0:=[]) hC0 (by omega) ?_ ?_ ?_
    ·simp [dom,zgh]
    ·have e:fa 8 .u64 (zdc (um a) (um b) i 0)=fa 8 .u64 (wi (zb0 (um a) (um b) i)):=zcv λj _=>by unfold zdc;rw [if_neg (by omega)]
     simp [e,zdd]
    ·simp
   ·intro k hk
    have hk':(k:Int)<4:=by omega
    have hkz:(0:Int)<=k:=by omega
    have hs2:Int.bmod ((k:Int)+1) 18446744073709551616=((k+1:Nat):Int):=by rw [bm (by omega) (by omega)];rfl
    have hik:Int.bmod ((i:Int)+k) 18446744073709551616=((i+k:Nat):Int):=by rw [bm (by omega) (by omega)];rfl
    have hik2:i+k<8:=by omega
    have hik3:(i:Int)+k<8:=by omega
    have hik4:(0:Int)<=(i:Int)+k:=by omega
    have hik5:((i:Int)+k).toNat=i+k:=by omega
    have hik6:(i:Int)+k<=7:=by omega
    have hik7:i+k<=7:=by omega
    have hn:=z12 (um a) (um b) i k
    have hc:=zgg (um a) (um b) i k
    unfold zim
    repeat' first|refine gwZ ?_|(refine gwX ?_;intro Q hQ _;simp [hC,hY,hi,hi',hz,hk,hk',hkz,hik,hik2,hik3,hik4,hik5,hik6,hik7,hs2,zdx,zg7,zbk,zbp,hn.1,hn.2.1,hn.2.2,hc.1];refine gwq hQ ?_)|refine gwC ?_ ?_<;>intro hb
    refine zbi _ 600 hC G0F (m0:=[]) hC0 (by omega) ?_ ?_ ?_
    ·simp [dom,hs2,z1v]
    ·have e:fa 8 .u64 (upd (zdc (um a) (um b) i k) (i+k) (wi (zb0 (um a) (um b) (i+1)) (i+k)))=fa 8 .u64 (zdc (um a) (um b) i (k+1)):=zcv λj _=>zgi (um a) (um b) i k j
     simp [zdd,z10,e]
    ·simp
   ·have hi8:Int.bmod ((i:Int)+4) 18446744073709551616=(i:Int)+4:=bm (by omega) (by omega)
    have hi9:(0:Int)<=(i:Int)+4:=by omega
    have hi10:((i:Int)+4).toNat=i+4:=by omega
    have hi11:(i:Int)+4<8:=by omega
    have hi12:(i:Int)<=3:=by omega
    have hi14:i<=3:=by omega
    have hi13:i+4<8:=by omega
    unfold zim
    repeat' first|refine gwZ ?_|(refine gwX ?_;intro Q hQ _;simp [hC,hY,hi,hi',hz,hs,hi8,hi9,hi10,hi11,hi12,hi13,hi14,zg7];refine gwq hQ ?_)|refine gwC ?_ ?_<;>intro hb
    refine zbi _ 600 hC G0F (m0:=[]) hC0 (by omega) ?_ ?_ ?_
    ·simp [dom,hs]
    ·have e:fa 8 .u64 (upd (zdc (um a) (um b) i 4) (i+4) (zea (um a) (um b) i 4))=fa 8 .u64 (wi (zb0 (um a) (um b) (i+1))):=zcv λj _=>zhq (um a) (um b) i hB0 hB1 j
     simp [zdd,e]
    ·simp
  ·unfold zt3
   rw [eD]
   by_cases hx:orW D=0
   ·have hov:ovD D=false:=by rw [<-hor];simp [hx]
    unfold orW at hx
    by_cases hzz:sz D=0
    ·have hw:=zx1 D hzz
     repeat' first|refine gwZ ?_|(refine gwX ?_;intro Q hQ _;simp [hC,hY,zqm,zjt,hx,hw];refine gwq hQ ?_)|refine gwC ?_ ?_<;>intro hb
     refine ⟨.inr trivial,?_⟩
     rw [ovD] at hov
     simp [results101,hs2 hn,zot,hx]
     have:=zgc D hbd.1 (by simpa using hov)
     simp at hov
     omega
    ·have hw:=zml D hzz
     repeat' first|refine gwZ ?_|(refine gwX ?_;intro Q hQ _;simp [hC,hY,zqm,zjt,hx,hw];refine gwq hQ ?_)|refine gwC ?_ ?_<;>intro hb
     refine ⟨.inr trivial,?_⟩
     rw [ovD] at hov
     simp [results101,hs2 hn,zot,hx]
     rw [Bool.eq_iff_iff]
     simp [zfx]
     have h3:=zgc D hbd.1 (by simpa using hov)
     have h4:=zxk D hbd.1 (by simpa using hov)
     simp at hov
     omega
   ·have hov:ovD D=true:=by rw [<-hor];simp [hx]
    unfold orW at hx
    have hx2:(zdr .or .u64 (zdr .or .u64 (zdr .or .u64 (wi D 4) (wi D 5)) (wi D 6)) (wi D 7)==0)=false:=by simpa using hx
    have hx3:(zdr .or .u64 (zdr .or .u64 (zdr .or .u64 (wi D 4) (wi D 5)) (wi D 6)) (wi D 7) != 0)=true:=by simpa using hx
    repeat' first|refine gwZ ?_|(refine gwX ?_;intro Q hQ _;simp [hC,hY,zqm,zjt,hx,hx2,hx3];refine gwq hQ ?_)|refine gwC ?_ ?_<;>intro hb
    refine ⟨.inr trivial,?_⟩
    rw [ovD] at hov
    simp [results101,hs2 hn,zot,hx]
    simp at hov
    omega
 ·have hn:(ng a==ng b)=false:=by rw [ha,hq];rfl
  refine zc3 4 (zt3 360 true (um a) (um b)) ?_ ?_ ?_
  ·have e1:=z2b a ha
   have e2:=z2a b hq
   refine zbi _ 600 hC G0F (m0:=[]) hC0 (by omega) ?_ ?_ ?_
   ·simp [dom,zjt,e1]
   ·simp [zdd,zjt,zqm,e1,e2,zb0,Int.emod_one,zar]
   ·simp
  ·intro i hi
   have hi':(i:Int)<4:=by omega
   have hz:(0:Int)<=i:=by omega
   have hs:Int.bmod ((i:Int)+1) 18446744073709551616=((i+1:Nat):Int):=by rw [bm (by omega) (by omega)];rfl
   unfold zt3
   repeat' first|refine gwZ ?_|(refine gwX ?_;intro Q hQ _;simp [hC,hY,hi,hi',hz,hs,zdx];refine gwq hQ ?_)|refine gwC ?_ ?_<;>intro hb
   refine zc3 4 (zim 360 true (um a) (um b) i) ?_ ?_ ?_
   ·refine zbi _ 600 hC G0F (m0:=[]) hC0 (by omega) ?_ ?_ ?_
    ·simp [dom,zgh]
    ·have e:fa 8 .u64 (zdc (um a) (um b) i 0)=fa 8 .u64 (wi (zb0 (um a) (um b) i)):=zcv λj _=>by unfold zdc;rw [if_neg (by omega)]
     simp [e,zdd]
    ·simp
   ·intro k hk
    have hk':(k:Int)<4:=by omega
    have hkz:(0:Int)<=k:=by omega
    have hs2:Int.bmod ((k:Int)+1) 18446744073709551616=((k+1:Nat):Int):=by rw [bm (by omega) (by omega)];rfl
    have hik:Int.bmod ((i:Int)+k) 18446744073709551616=((i+k:Nat):Int):=by rw [bm (by omega) (by omega)];rfl
    have hik2:i+k<8:=by omega
    have hik3:(i:Int)+k<8:=by omega
    have hik4:(0:Int)<=(i:Int)+k:=by omega
    have hik5:((i:Int)+k).toNat=i+k:=by omega
    have hik6:(i:Int)+k<=7:=by omega
    have hik7:i+k<=7:=by omega
    have hn:=z12 (um a) (um b) i k
    have hc:=zgg (um a) (um b) i k
    unfold zim
    repeat' first|refine gwZ ?_|(refine gwX ?_;intro Q hQ _;simp [hC,hY,hi,hi',hz,hk,hk',hkz,hik,hik2,hik3,hik4,hik5,hik6,hik7,hs2,zdx,zg7,zbk,zbp,hn.1,hn.2.1,hn.2.2,hc.1];refine gwq hQ ?_)|refine gwC ?_ ?_<;>intro hb
    refine zbi _ 600 hC G0F (m0:=[]) hC0 (by omega) ?_ ?_ ?_
    ·simp [dom,hs2,z1v]
    ·have e:fa 8 .u64 (upd (zdc (um a) (um b) i k) (i+k) (wi (zb0 (um a) (um b) (i+1)) (i+k)))=fa 8 .u64 (zdc (um a) (um b) i (k+1)):=zcv λj _=>zgi (um a) (um b) i k j
     simp [zdd,z10,e]
    ·simp
   ·have hi8:Int.bmod ((i:Int)+4) 18446744073709551616=(i:Int)+4:=bm (by omega) (by omega)
    have hi9:(0:Int)<=(i:Int)+4:=by omega
    have hi10:((i:Int)+4).toNat=i+4:=by omega
    have hi11:(i:Int)+4<8:=by omega
    have hi12:(i:Int)<=3:=by omega
    have hi14:i<=3:=by omega
    have hi13:i+4<8:=by omega
    unfold zim
    repeat' first|refine gwZ ?_|(refine gwX ?_;intro Q hQ _;simp [hC,hY,hi,hi',hz,hs,hi8,hi9,hi10,hi11,hi12,hi13,hi14,zg7];refine gwq hQ ?_)|refine gwC ?_ ?_<;>intro hb
    refine zbi _ 600 hC G0F (m0:=[]) hC0 (by omega) ?_ ?_ ?_
    ·simp [dom,hs]
    ·have e:fa 8 .u64 (upd (zdc (um a) (um b) i 4) (i+4) (zea (um a) (um b) i 4))=fa 8 .u64 (wi (zb0 (um a) (um b) (i+1))):=zcv λj _=>zhq (um a) (um b) i hB0 hB1 j
     simp [zdd,e]
    ·simp
  ·unfold zt3
   rw [eD]
   by_cases hx:orW D=0
   ·have hov:ovD D=false:=by rw [<-hor];simp [hx]
    unfold orW at hx
    by_cases hzz:sz D=0
    ·have hw:=zx1 D hzz
     repeat' first|refine gwZ ?_|(refine gwX ?_;intro Q hQ _;simp [hC,hY,zqm,zjt,hx,hw];refine gwq hQ ?_)|refine gwC ?_ ?_<;>intro hb
     refine ⟨.inr trivial,?_⟩
     rw [ovD] at hov
     simp [results101,hs2 hn,zot,hx]
     have:=zgc D hbd.1 (by simpa using hov)
     simp at hov
     omega
    ·have hw:=zml D hzz
     repeat' first|refine gwZ ?_|(refine gwX ?_;intro Q hQ _;simp [hC,hY,zqm,zjt,hx,hw];refine gwq hQ ?_)|refine gwC ?_ ?_<;>intro hb
     refine ⟨.inr trivial,?_⟩
     rw [ovD] at hov
     simp [results101,hs2 hn,zot,hx]
     rw [Bool.eq_iff_iff]
     simp [zfx]
     have h3:=zgc D hbd.1 (by simpa using hov)
     have h4:=zxk D hbd.1 (by simpa using hov)
     simp at hov
     omega
   ·have hov:ovD D=true:=by rw [<-hor];simp [hx]
    unfold orW at hx
    have hx2:(zdr .or .u64 (zdr .or .u64 (zdr .or .u64 (wi D 4) (wi D 5)) (wi D 6)) (wi D 7)==0)=false:=by simpa using hx
    have hx3:(zdr .or .u64 (zdr .or .u64 (zdr .or .u64 (wi D 4) (wi D 5)) (wi D 6)) (wi D 7) != 0)=true:=by simpa using hx
    repeat' first|refine gwZ ?_|(refine gwX ?_;intro Q hQ _;simp [hC,hY,zqm,zjt,hx,hx2,hx3];refine gwq hQ ?_)|refine gwC ?_ ?_<;>intro hb
    refine ⟨.inr trivial,?_⟩
    rw [ovD] at hov
    simp [results101,hs2 hn,zot,hx]
    simp at hov
    omega
 ·have hn:(ng a==ng b)=true:=by rw [ha,hq];rfl
  refine zc3 4 (zt3 408 false (um a) (um b)) ?_ ?_ ?_
  ·have e1:=z2b a ha
   have e2:=z2b b hq
   refine zbi _ 600 hC G0F (m0:=[]) hC0 (by omega) ?_ ?_ ?_
   ·simp [dom,zjt,e1]
   ·simp [zdd,zjt,zqm,e1,e2,zb0,Int.emod_one,zar]
   ·simp
  ·intro i hi
   have hi':(i:Int)<4:=by omega
   have hz:(0:Int)<=i:=by omega
   have hs:Int.bmod ((i:Int)+1) 18446744073709551616=((i+1:Nat):Int):=by rw [bm (by omega) (by omega)];rfl
   unfold zt3
   repeat' first|refine gwZ ?_|(refine gwX ?_;intro Q hQ _;simp [hC,hY,hi,hi',hz,hs,zdx];refine gwq hQ ?_)|refine gwC ?_ ?_<;>intro hb
   refine zc3 4 (zim 408 false (um a) (um b) i) ?_ ?_ ?_
   ·refine zbi _ 600 hC G0F (m0:=[]) hC0 (by omega) ?_ ?_ ?_
    ·simp [dom,zgh]
    ·have e:fa 8 .u64 (zdc (um a) (um b) i 0)=fa 8 .u64 (wi (zb0 (um a) (um b) i)):=zcv λj _=>by unfold zdc;rw [if_neg (by omega)]
     simp [e,zdd]
    ·simp
   ·intro k hk
    have hk':(k:Int)<4:=by omega
    have hkz:(0:Int)<=k:=by omega
    have hs2:Int.bmod ((k:Int)+1) 18446744073709551616=((k+1:Nat):Int):=by rw [bm (by omega) (by omega)];rfl
    have hik:Int.bmod ((i:Int)+k) 18446744073709551616=((i+k:Nat):Int):=by rw [bm (by omega) (by omega)];rfl
    have hik2:i+k<8:=by omega
    have hik3:(i:Int)+k<8:=by omega
    have hik4:(0:Int)<=(i:Int)+k:=by omega
    have hik5:((i:Int)+k).toNat=i+k:=by omega
    have hik6:(i:Int)+k<=7:=by omega
    have hik7:i+k<=7:=by omega
    have hn:=z12 (um a) (um b) i k
    have hc:=zgg (um a) (um b) i k
    unfold zim
    repeat' first|refine gwZ ?_|(refine gwX ?_;intro Q hQ _;simp [hC,hY,hi,hi',hz,hk,hk',hkz,hik,hik2,hik3,hik4,hik5,hik6,hik7,hs2,zdx,zg7,zbk,zbp,hn.1,hn.2.1,hn.2.2,hc.1];refine gwq hQ ?_)|refine gwC ?_ ?_<;>intro hb
    refine zbi _ 600 hC G0F (m0:=[]) hC0 (by omega) ?_ ?_ ?_
    ·simp [dom,hs2,z1v]
    ·have e:fa 8 .u64 (upd (zdc (um a) (um b) i k) (i+k) (wi (zb0 (um a) (um b) (i+1)) (i+k)))=fa 8 .u64 (zdc (um a) (um b) i (k+1)):=zcv λj _=>zgi (um a) (um b) i k j
     simp [zdd,z10,e]
    ·simp
   ·have hi8:Int.bmod ((i:Int)+4) 18446744073709551616=(i:Int)+4:=bm (by omega) (by omega)
    have hi9:(0:Int)<=(i:Int)+4:=by omega
    have hi10:((i:Int)+4).toNat=i+4:=by omega
    have hi11:(i:Int)+4<8:=by omega
    have hi12:(i:Int)<=3:=by omega
    have hi14:i<=3:=by omega
    have hi13:i+4<8:=by omega
    unfold zim
    repeat' first|refine gwZ ?_|(refine gwX ?_;intro Q hQ _;simp [hC,hY,hi,hi',hz,hs,hi8,hi9,hi10,hi11,hi12,hi13,hi14,zg7];refine gwq hQ ?_)|refine gwC ?_ ?_<;>intro hb
    refine zbi _ 600 hC G0F (m0:=[]) hC0 (by omega) ?_ ?_ ?_
    ·simp [dom,hs]
    ·have e:fa 8 .u64 (upd (zdc (um a) (um b) i 4) (i+4) (zea (um a) (um b) i 4))=fa 8 .u64 (wi (zb0 (um a) (um b) (i+1))):=zcv λj _=>zhq (um a) (um b) i hB0 hB1 j
     simp [zdd,e]
    ·simp
  ·unfold zt3
   rw [eD]
   by_cases hx:orW D=0
   ·have hov:ovD D=false:=by rw [<-hor];simp [hx]
    unfold orW at hx
    repeat' first|refine gwZ ?_|(refine gwX ?_;intro Q hQ _;simp [hC,hY,zqm,zjt,hx];refine gwq hQ ?_)|refine gwC ?_ ?_<;>intro hb
    refine ⟨.inr trivial,?_⟩
    rw [ovD] at hov
    simp [results101,hs1 hn,zot,hx]
    rw [Bool.eq_iff_iff]
    simp [zfx]
    have h3:=zgc D hbd.1 (by simpa using hov)
    simp at hov
    omega
   ·have hov:ovD D=true:=by rw [<-hor];simp [hx]
    unfold orW at hx
    have hx2:(zdr .or .u64 (zdr .or .u64 (zdr .or .u64 (wi D 4) (wi D 5)) (wi D 6)) (wi D 7)==0)=false:=by simpa using hx
    have hx3:(zdr .or .u64 (zdr .or .u64 (zdr .or .u64 (wi D 4) (wi D 5)) (wi D 6)) (wi D 7) != 0)=true:=by simpa using hx
    repeat' first|refine gwZ ?_|(refine gwX ?_;intro Q hQ _;simp [hC,hY,zqm,zjt,hx,hx2,hx3];refine gwq hQ ?_)|refine gwC ?_ ?_<;>intro hb
    refine ⟨.inr trivial,?_⟩
    rw [ovD] at hov
    simp [results101,hs1 hn,zot,hx]
    simp at hov
    omega
@[simp] theorem jot (a b:Int) (K:Value->Prop):zbe prog G0 101 #[Value.agg #[.int .u64 (wi (a) 0),.int .u64 (wi (a) 1),.int .u64 (wi (a) 2),.int .u64 (wi (a) 3)],Value.agg #[.int .u64 (wi (b) 0),.int .u64 (wi (b) 1),.int .u64 (wi (b) 2),.int .u64 (wi (b) 3)]] K↔K (.tuple #[wd (sz a*sz b),.bool (zot a b)]):=zaf G0W (by kernel_rfl) (z11 a b)

def erV (n:Int):Value:=.iface 41 (.int .i64 n)
@[simp] theorem jao (n:Int):erV n=.iface 41 (.int .i64 n):=rfl
def zB:Blk:=⟨#[.int .u64 0,.int .u64 0,.int .u64 0,.int .u64 0],.ty 30⟩
def eB (n:Int):Blk:=⟨#[.int .i64 n],.ty 41⟩
theorem zux (n:Int) (W:World):(Instr.typeAssert (erV n) 20 41 true).run prog W=.ok (.tuple #[.int .i64 n,.bool true]) W:=by kernel_rfl
theorem zr3 (W:World):(Instr.typeAssert .nilIface 20 41 true).run prog W=.ok (.tuple #[.int .i64 0,.bool false]) W:=by kernel_rfl
theorem jdc:Array.replicate 10 undef=#[undef,undef,undef,undef,undef,undef,undef,undef,undef,undef]:=rfl
theorem jlh:Array.replicate 7 undef=#[undef,undef,undef,undef,undef,undef,undef]:=rfl
def zj8:Array Value:=#[.pointer (some ⟨100000,0,none⟩),.pointer (some ⟨100008,0,none⟩)]
def hpQ (n:Int):Hp:=hpL G0 [(100000,zB),(100008,eB n)]
theorem zds (n:Int):rst (hpQ n) [100000,100008]=hpQ n:=zfs G0F (by simp)
theorem zlq (n:Int) (k:Nat) (b:Blk) (D:Nat->Prop) (h:hpQ n k=some b):b.ids D:=by
 rcases za5 h with h|h
 ·simp at h
  rcases h with ⟨_,rfl⟩|⟨_,rfl⟩<;>simp [zB,eB]
 ·exact zd4 _ _ _ h
theorem ji7 (n:Int):RecF prog G0 190 zj8 (hpQ 0) [100000,100008] (erV n) [(100000,zB),(100008,eB n)]:=by
 refine ⟨⟨_,func190⟩,call190,?_,?_⟩
 ·refine zuy (k:=2) func190 rfl λargs c₀ cs W hk hu=>?_
  obtain ⟨p0,p1,rfl⟩:∃ p0 p1,args=#[p0,p1]:=by
   rcases args with ⟨l⟩
   match l,hk with
   | [a,b],_=>exact ⟨a,b,rfl⟩
  have hn:f190.ntmps=12:=ntmps190
  refine wpSIn_seq (wpSIn_region ?_)
  simp [wpOpsSIn,List.range,List.range.loop,go_sem,recoverD,hu,hn,zr3,jdc]
  refine wpSIn_seq (wpSIn_region ?_)
  simp [wpOpsSIn,List.range,List.range.loop,go_sem]
  refine wpSIn_cond (t:=false) (by simp [Act.eval]) ?_
  refine wpSIn_of_wpIn rfl (wpIn_skip ?_)
  exact ⟨.inl rfl,rfl,rfl,rfl,.tuple #[],by simp [results,results190,go_sem]⟩
 ·refine zm8 (B:=200000) (A:=#[.pointer (some ⟨100000,0,none⟩),.pointer (some ⟨100008,0,none⟩),.int .i64 n,.bool true,.tuple #[.int .i64 n,.bool true],erV n,.tuple #[.int .i64 n,.bool true],.int .i64 n,.bool true,undef,undef,undef]) G0F (λk hk=>za7 (by simp) hk) func190 rfl (by simp [ntmps190]) ?_ ?_ ?_ ?_ ?_ ?_ (by omega) ?_ ?_
  ·rw [zds];simp [hpQ,dom];exact zak (by simp)
  ·intro r c₀ cs W Q hu hQ
   have hrn:∀ v,zau v=true->ren r v=v:=λv hv=>zap hv
   simp only [List.map_toArray,List.map_cons,List.map_nil,zj8] at hQ |-
   generalize ren r (.pointer (some ⟨100000,0,none⟩))=p0 at hQ |-
   generalize ren r (.pointer (some ⟨100008,0,none⟩))=p1 at hQ |-
   simp only [hrn (.int .i64 n) rfl,hrn (.bool true) rfl,hrn (erV n) rfl,hrn (.tuple #[.int .i64 n,.bool true]) (by simp),zb9] at hQ
   have hn:f190.ntmps=12:=ntmps190
   have hA:=zux n
   simp only [jao] at hA
   simp [wpOpsSIn,List.range,List.range.loop,go_sem,recoverD,hu,jcw,erV,hn,hA,jdc]
   exact hQ
  ·rw [zds];exact λk b h=>zlq 0 k b _ h
  ·rw [zds];simp [hpQ,dom]
  ·intro k b c h1 h2
   simp at h1 h2
   rcases h1 with ⟨rfl,rfl⟩|⟨rfl,rfl⟩<;>rcases h2 with ⟨e2,rfl⟩|⟨e2,rfl⟩<;>first|rfl|omega
  ·simp [zB,eB]
  ·rw [zds];exact λx hx=>by simp [hpQ,show ¬x=100000 by omega,show ¬x=100008 by omega,show 100<=x by omega]
  ·intro C hC hC0 hY
   rw [zds]
   repeat' first|refine gwZ ?_|(refine gwX ?_;intro Q hQ _;simp [hC,hY,hpQ,zB,eB];refine gwq hQ ?_)|refine gwC ?_ ?_<;>intro hb
   refine ⟨.inl trivial,by simp [results190],λk hk=>?_⟩
   simp [zB,eB,hpQ]
theorem z04 (W:World):((do eqGuard .neq 20 (.tmp 4) (.const .nilIface) .nilIface .nilIface;binOp .neq 20 .nilIface .nilIface:Sem Value)).run prog W=.ok (.bool false) W:=by kernel_rfl
def ifE:Value->Bool
 | .iface T (.int .i64 _)=>T==41
 | _=>false
def ifN:Value->Value
 | .iface _ u=>u
 | v=>v
@[simp] theorem jk0 (T:TypeId) (n:Int):ifE (.iface T (.int .i64 n))=(T==41):=nr rfl
@[simp] theorem jk1 (T:TypeId) (u:Value):ifN (.iface T u)=u:=nr rfl
theorem z22 {v:Value} (h:ifE v=true):∃ n,v=erV n:=by
 unfold ifE at h
 split at h
 ·rename_i T n
  have:T=41:=by simpa using h
  exact ⟨n,by rw [this];rfl⟩
 ·cases h
theorem zjj {P:Program} {o:Oper} {ts:Nat->Value} {hp:Hp} {K:Value->Prop} {v:Value} (ho:∀ x∈o.op.operands.toList,okX ts hp x/\zau (gev ts x)=true) (hv:zau v=true) (hr:∀ W,(execOp (gev ts) o).run P W=.ok (.value v) W):ztb P o ts hp K↔K v :=
 ⟨λ⟨_,u,_,h1,h2⟩=>by
  have:=(hr default).symm.trans (h1 default)
  injection this with this;injection this with this;subst this;exact h2,λh=>⟨ho,v,hv,hr,h⟩⟩
@[simp] theorem z9y (P:Program) (op:BinOp) (T t:TypeId) (v:Value):zm4 P op T (.iface t v) .nilIface=none:=by cases op<;>rfl
@[simp] theorem z4p {dst:Option Tmp} {x:Operand} {T:TypeId} {ps:String} {af:Array Edge} {g:Option (Nat×Bool)} {ts:Nat->Value} {hp:Hp} {C:Eff->Prop} (h:ifE (gev ts x)=true) (hx:okX ts hp x) :
  z4o prog none ⟨dst,.binOp .neq 20 x (.const .nilIface) 20,T,ps,af,g⟩ ts hp C↔C (val (.bool true) []):=by
 obtain ⟨n,hn⟩:=z22 h
 refine zjj (K:=λv=>C (val v [])) (v:=.bool true) ?_ rfl λW=>?_
 ·intro y hy
  simp [Op.operands] at hy
  rcases hy with rfl|rfl
  ·exact ⟨hx,by rw [hn];rfl⟩
  ·exact ⟨rfl,rfl⟩
 ·show (execOp (gev ts) ⟨dst,.binOp .neq 20 x (.const .nilIface) 20,T,ps,af,g⟩).run prog W=_
  simp only [execOp,hn]
  kernel_rfl
@[simp] theorem z6n {dst:Option Tmp} {x:Operand} {T:TypeId} {ps:String} {af:Array Edge} {g:Option (Nat×Bool)} {V:XV} {yc nk:Nat} {ts:Nat->Value} {hp:Hp} {C:Eff->Prop} (h:ifE (gev ts x)=true) (hx:okX ts hp x) :
  opX prog G0 V yc ⟨dst,.typeAssert x 20 41 false,T,ps,af,g⟩ ts hp nk C↔C (val (ifN (gev ts x)) []):=by
 obtain ⟨n,hn⟩:=z22 h
 refine zjj (K:=λv=>C (val v [])) ?_ ?_ λW=>?_
 ·intro y hy
  simp [Op.operands] at hy
  subst hy
  exact ⟨hx,by rw [hn];rfl⟩
 ·rw [hn];rfl
 ·simp only [execOp,hn]
  kernel_rfl
theorem jjf (n:Int):RecF prog G0 165 zj8 (hpQ 0) [100000,100008] (erV n) [(100000,zB),(100008,eB n)]:=by
 refine ⟨⟨_,func165⟩,call165,?_,?_⟩
 ·refine zuy (k:=2) func165 rfl λargs c₀ cs W hk hu=>?_
  obtain ⟨p0,p1,rfl⟩:∃ p0 p1,args=#[p0,p1]:=by
   rcases args with ⟨l⟩
   match l,hk with
   | [a,b],_=>exact ⟨a,b,rfl⟩
  have hn:f165.ntmps=9:=ntmps165
  refine wpSIn_seq (wpSIn_region ?_)
  simp [wpOpsSIn,List.range,List.range.loop,go_sem,recoverD,hu,hn,jlh]
  refine wpSIn_seq (wpSIn_region ?_)
  simp [wpOpsSIn,List.range,List.range.loop,go_sem,z04]
  refine wpSIn_cond (t:=false) (by simp [Act.eval]) ?_
  refine wpSIn_of_wpIn rfl (wpIn_skip ?_)
  exact ⟨.inl rfl,rfl,rfl,rfl,.tuple #[],by simp [results,results165,go_sem]⟩
 ·refine zm8 (B:=200000) (A:=#[.pointer (some ⟨100000,0,none⟩),.pointer (some ⟨100008,0,none⟩),erV n,erV n,undef,undef,undef,undef,undef]) G0F (λk hk=>za7 (by simp) hk) func165 rfl (by simp [ntmps165]) ?_ ?_ ?_ ?_ ?_ ?_ (by omega) ?_ ?_
  ·rw [zds];simp [hpQ,dom]
  ·intro r c₀ cs W Q hu hQ
   have hrn:∀ v,zau v=true->ren r v=v:=λv hv=>zap hv
   simp only [List.map_toArray,List.map_cons,List.map_nil,zj8] at hQ |-
   generalize ren r (.pointer (some ⟨100000,0,none⟩))=p0 at hQ |-
   generalize ren r (.pointer (some ⟨100008,0,none⟩))=p1 at hQ |-
   simp only [hrn (erV n) rfl,zb9] at hQ
   have hn:f165.ntmps=9:=ntmps165
   simp [wpOpsSIn,List.range,List.range.loop,go_sem,recoverD,hu,jcw,erV,hn,jlh]
   exact hQ
  ·rw [zds];exact λk b h=>zlq 0 k b _ h
  ·rw [zds];simp [hpQ,dom]
  ·intro k b c h1 h2
   simp at h1 h2
   rcases h1 with ⟨rfl,rfl⟩|⟨rfl,rfl⟩<;>rcases h2 with ⟨e2,rfl⟩|⟨e2,rfl⟩<;>first|rfl|omega
  ·simp [zB,eB]
  ·rw [zds];exact λx hx=>by simp [hpQ,show ¬x=100000 by omega,show ¬x=100008 by omega,show 100<=x by omega]
  ·intro C hC hC0 hY
   rw [zds]
   repeat' first|refine gwZ ?_|(refine gwX ?_;intro Q hQ _;simp [hC,hY,hpQ,zB,eB];refine gwq hQ ?_)|refine gwC ?_ ?_<;>intro hb
   refine ⟨.inl trivial,by simp [results165],λk hk=>?_⟩
   simp [zB,eB,hpQ]
theorem zwv {g:FuncId} {capv:List Value} {hp:Hp} {rs:List Nat} {x0 x1 x2 x3:Int} {ws:List (Nat×Blk)} (hG:∀ k,k<100->hp k=G0 k) (hrs:∀ k∈rs,k<100000) (hc:capv.isEmpty=false) (hpl:capv.all zbj=true)
  (h:Fun prog G0 g capv.toArray hp rs (.ret (.agg #[.int .u64 x0,.int .u64 x1,.int .u64 x2,.int .u64 x3]) ws)) :
  Fun prog G0 179 #[.func (.func g) #[] capv.toArray] hp rs (.ret (.tuple #[.agg #[.int .u64 x0,.int .u64 x1,.int .u64 x2,.int .u64 x3],.int .i64 0]) ws):=by
 have hids:∀ x∈capv,zal (dom (rst hp rs)) x:=λx hx=>(zbs (List.all_eq_true.1 hpl x hx)).1 (h.ids x (by simpa using hx))
 have hbig:∀ x,100000<=x->rst hp rs x=none:=λx hx=>by
  unfold rst;rw [if_neg];rintro (h1|h1)
  ·omega
  ·have:=hrs x h1;omega
 refine zlp (out:=.ret (.tuple #[.agg #[.int .u64 x0,.int .u64 x1,.int .u64 x2,.int .u64 x3],.int .i64 0]) ws) (B:=100000) (B1:=100016) (id:=1) (t:=4) (ts1:=upd (upd (λt=>[Value.func (.func g) #[] capv.toArray][t]?.getD undef) 2 (zju 100000)) 3 (zju 100008))
  (hp1:=upd (upd (rst hp rs) 100000 (some zB)) 100008 (some (eB 0))) zj8 G0F hG func179 rfl (by simp [ntmps179]) call179 ⟨_,_,_,_,ji7 0⟩ ?_ h.closed ?_ (by simp [ntmps179]) (by omega) hbig ?_ ?_ ?_ ?_ ?_ ?_
 ·simpa using hids
 ·exact ⟨zak (by simp),h.fits.2⟩
 ·intro C hC hC0 hY
  repeat' first|refine gwZ ?_|refine gwW ?_|refine gwC ?_ ?_<;>intro hb
  exact ⟨trivial,rfl⟩
 ·intro k hk
  have h1:¬k=100000:=λe=>hk (hbig k (by omega))
  have h2:¬k=100008:=λe=>hk (hbig k (by omega))
  simp [h1,h2]
 ·simp [okT,zj8]
 ·simp [zj8]
 ·simp [zj8]
 ·intro C d hC hC0 hY
  refine zgm ?_
  refine zct [] (by kernel_rfl) ?_;intro Q hQ hP;simp [hC,hY,hc,hpl]
  have hk1:∀ k∈zab ws,k<100000:=λk hk=>hrs k (h.fits.2.1 k hk).1
  have hk2:(100000:Nat)∉zab ws:=λhm=>by have:=hk1 _ hm;omega
  have hk3:(100008:Nat)∉zab ws:=λhm=>by have:=hk1 _ hm;omega
  have w1:zbb (upd (upd (rst hp rs) 100000 (some zB)) 100008 (some (eB 0))) ws 100000=some zB:=by
   rw [za6 hk2];simp
  have w2:zbb (upd (upd (rst hp rs) 100000 (some zB)) 100008 (some (eB 0))) ws 100008=some (eB 0):=by
   rw [za6 hk3];simp
  refine zb7 (hp':=hp) h (λk hk=>?_) hG trivial ?_
  ·have:=hrs k hk
   simp [rst,hk,show ¬k=100000 by omega,show ¬k=100008 by omega]
  simp only [zB,eB] at w1 w2
  simp [w1,w2,zB,eB]
  refine hQ _ _ _ _ ?_
  repeat' first|refine gwZ ?_|(refine gwX ?_;intro Q hQ _;simp [hC,hY,w1,w2,zB,eB];refine gwq hQ ?_)|refine gwC ?_ ?_<;>intro hb
  refine ⟨.inr rfl,by simp [results179],λk hk=>?_⟩
  have h1:¬k=100000:=λe=>hk (hbig k (by omega))
  have h2:¬k=100008:=λe=>hk (hbig k (by omega))
  rw [zda hk3,zda hk2]
  simp [h1,h2]
theorem jc6 {g:FuncId} {capv:List Value} {hp:Hp} {rs:List Nat} {n:Int} (hG:∀ k,k<100->hp k=G0 k) (hrs:∀ k∈rs,k<100000) (hc:capv.isEmpty=false) (hpl:capv.all zbj=true)
  (h:Fun prog G0 g capv.toArray hp rs (.pan (erV n))) :
  Fun prog G0 179 #[.func (.func g) #[] capv.toArray] hp rs (.ret (.tuple #[.agg #[.int .u64 0,.int .u64 0,.int .u64 0,.int .u64 0],.int .i64 n]) []):=by
 have hids:∀ x∈capv,zal (dom (rst hp rs)) x:=λx hx=>(zbs (List.all_eq_true.1 hpl x hx)).1 (h.ids x (by simpa using hx))
 have hbig:∀ x,100000<=x->rst hp rs x=none:=λx hx=>by
  unfold rst;rw [if_neg];rintro (h1|h1)
  ·omega
  ·have:=hrs x h1;omega
 refine zlp (out:=.pan (erV n) [100000,100008] [(100000,zB),(100008,eB n)] (.tuple #[.agg #[.int .u64 0,.int .u64 0,.int .u64 0,.int .u64 0],.int .i64 n])) (B:=100000) (B1:=100016) (id:=1) (t:=4) (ts1:=upd (upd (λt=>[Value.func (.func g) #[] capv.toArray][t]?.getD undef) 2 (zju 100000)) 3 (zju 100008))
  (hp1:=upd (upd (rst hp rs) 100000 (some zB)) 100008 (some (eB 0))) zj8 G0F hG func179 rfl (by simp [ntmps179]) call179 ⟨_,_,_,_,ji7 0⟩ ?_ h.closed ?_ (by simp [ntmps179]) (by omega) hbig ?_ ?_ ?_ ?_ ?_ ?_
 ·simpa using hids
 ·exact ⟨zak (by simp),by simp [zab],by simp,by simp⟩
 ·intro C hC hC0 hY
  repeat' first|refine gwZ ?_|refine gwW ?_|refine gwC ?_ ?_<;>intro hb
  exact ⟨trivial,rfl⟩
 ·intro k hk
  have h1:¬k=100000:=λe=>hk (hbig k (by omega))
  have h2:¬k=100008:=λe=>hk (hbig k (by omega))
  simp [h1,h2]
 ·simp [okT,zj8]
 ·simp [zj8]
 ·simp [zj8]
 ·intro C d hC hC0 hY
  refine zgm ?_
  refine zct [] (by kernel_rfl) ?_;intro Q hQ hP;simp [hC,hY,hc,hpl]
  refine zb7 (hp':=hp) h (λk hk=>?_) hG trivial ?_
  ·have:=hrs k hk
   simp [rst,hk,show ¬k=100000 by omega,show ¬k=100008 by omega]
  simp
  refine hP _ _ λyc=>?_
  simp only [zgy]
  have e:∀ k,(k<100\/k∈[100000,100008])->hpQ 0 k=upd (upd (rst hp rs) 100000 (some zB)) 100008 (some (eB 0)) k:=λk hk=>by
   rcases hk with hk|hk
   ·simp [hpQ,show ¬k=100000 by omega,show ¬k=100008 by omega,rst,hk,hG k hk]
   ·simp at hk;rcases hk with rfl|rfl<;>simp [hpQ]
  have er:rst (upd (upd (rst hp rs) 100000 (some zB)) 100008 (some (eB 0))) [100000,100008]=hpQ 0:=by rw [<-zd6 e,zds]
  refine ⟨rfl,by simp [results179,zB,eB],λk hk=>rfl,(ji7 n).under e,λk hk=>?_,λk hk=>?_,?_⟩
  ·rw [er] at hk;unfold dom at hk |-
   by_cases h1:k=100000
   ·subst h1;simp
   ·by_cases h2:k=100008
    ·subst h2;simp
    ·simp only [hpQ,zag,zaq,h1,h2,if_false] at hk
     have hk100:=zif hk
     simp [h1,h2,rst,hk100,hG k hk100];exact hk
  ·rw [er]
   simp [zab] at hk
   rcases hk with rfl|rfl
   ·exact ⟨by simp [hpQ,dom],by omega,λhd=>hd (hbig _ (by omega))⟩
   ·exact ⟨by simp [hpQ,dom],by omega,λhd=>hd (hbig _ (by omega))⟩
  ·rw [er];exact λk b hk=>zlq 0 k b _ hk
theorem zw8 {g:FuncId} {capv:List Value} {hp:Hp} {rs:List Nat} {x0 x1 x2 x3:Int} {ws:List (Nat×Blk)} (hG:∀ k,k<100->hp k=G0 k) (hrs:∀ k∈rs,k<100000) (hc:capv.isEmpty=false) (hpl:capv.all zbj=true)
  (h:Fun prog G0 g capv.toArray hp rs (.ret (.agg #[.int .u64 x0,.int .u64 x1,.int .u64 x2,.int .u64 x3]) ws)) :
  Fun prog G0 142 #[.func (.func g) #[] capv.toArray] hp rs (.ret (.tuple #[.agg #[.int .u64 x0,.int .u64 x1,.int .u64 x2,.int .u64 x3],.int .i64 0]) ws):=by
 have hids:∀ x∈capv,zal (dom (rst hp rs)) x:=λx hx=>(zbs (List.all_eq_true.1 hpl x hx)).1 (h.ids x (by simpa using hx))
 have hbig:∀ x,100000<=x->rst hp rs x=none:=λx hx=>by
  unfold rst;rw [if_neg];rintro (h1|h1)
  ·omega
  ·have:=hrs x h1;omega
 refine zlp (out:=.ret (.tuple #[.agg #[.int .u64 x0,.int .u64 x1,.int .u64 x2,.int .u64 x3],.int .i64 0]) ws) (B:=100000) (B1:=100016) (id:=1) (t:=4) (ts1:=upd (upd (λt=>[Value.func (.func g) #[] capv.toArray][t]?.getD undef) 2 (zju 100000)) 3 (zju 100008))
  (hp1:=upd (upd (rst hp rs) 100000 (some zB)) 100008 (some (eB 0))) zj8 G0F hG func142 rfl (by simp [ntmps142]) call142 ⟨_,_,_,_,jjf 0⟩ ?_ h.closed ?_ (by simp [ntmps142]) (by omega) hbig ?_ ?_ ?_ ?_ ?_ ?_
 ·simpa using hids
 ·exact ⟨zak (by simp),h.fits.2⟩
 ·intro C hC hC0 hY
  repeat' first|refine gwZ ?_|refine gwW ?_|refine gwC ?_ ?_<;>intro hb
  exact ⟨trivial,rfl⟩
 ·intro k hk
  have h1:¬k=100000:=λe=>hk (hbig k (by omega))
  have h2:¬k=100008:=λe=>hk (hbig k (by omega))
  simp [h1,h2]
 ·simp [okT,zj8]
 ·simp [zj8]
 ·simp [zj8]
 ·intro C d hC hC0 hY
  refine zgm ?_
  refine zct [] (by kernel_rfl) ?_;intro Q hQ hP;simp [hC,hY,hc,hpl]
  have hk1:∀ k∈zab ws,k<100000:=λk hk=>hrs k (h.fits.2.1 k hk).1
  have hk2:(100000:Nat)∉zab ws:=λhm=>by have:=hk1 _ hm;omega
  have hk3:(100008:Nat)∉zab ws:=λhm=>by have:=hk1 _ hm;omega
  have w1:zbb (upd (upd (rst hp rs) 100000 (some zB)) 100008 (some (eB 0))) ws 100000=some zB:=by
   rw [za6 hk2];simp
  have w2:zbb (upd (upd (rst hp rs) 100000 (some zB)) 100008 (some (eB 0))) ws 100008=some (eB 0):=by
   rw [za6 hk3];simp
  refine zb7 (hp':=hp) h (λk hk=>?_) hG trivial ?_
  ·have:=hrs k hk
   simp [rst,hk,show ¬k=100000 by omega,show ¬k=100008 by omega]
  simp only [zB,eB] at w1 w2
  simp [w1,w2,zB,eB]
  refine hQ _ _ _ _ ?_
  repeat' first|refine gwZ ?_|(refine gwX ?_;intro Q hQ _;simp [hC,hY,w1,w2,zB,eB];refine gwq hQ ?_)|refine gwC ?_ ?_<;>intro hb
  refine ⟨.inr rfl,by simp [results142],λk hk=>?_⟩
  have h1:¬k=100000:=λe=>hk (hbig k (by omega))
  have h2:¬k=100008:=λe=>hk (hbig k (by omega))
  rw [zda hk3,zda hk2]
  simp [h1,h2]
theorem zw7 {g:FuncId} {capv:List Value} {hp:Hp} {rs:List Nat} {n:Int} (hG:∀ k,k<100->hp k=G0 k) (hrs:∀ k∈rs,k<100000) (hc:capv.isEmpty=false) (hpl:capv.all zbj=true)
  (h:Fun prog G0 g capv.toArray hp rs (.pan (erV n))) :
  Fun prog G0 142 #[.func (.func g) #[] capv.toArray] hp rs (.ret (.tuple #[.agg #[.int .u64 0,.int .u64 0,.int .u64 0,.int .u64 0],.int .i64 n]) []):=by
 have hids:∀ x∈capv,zal (dom (rst hp rs)) x:=λx hx=>(zbs (List.all_eq_true.1 hpl x hx)).1 (h.ids x (by simpa using hx))
 have hbig:∀ x,100000<=x->rst hp rs x=none:=λx hx=>by
  unfold rst;rw [if_neg];rintro (h1|h1)
  ·omega
  ·have:=hrs x h1;omega
 refine zlp (out:=.pan (erV n) [100000,100008] [(100000,zB),(100008,eB n)] (.tuple #[.agg #[.int .u64 0,.int .u64 0,.int .u64 0,.int .u64 0],.int .i64 n])) (B:=100000) (B1:=100016) (id:=1) (t:=4) (ts1:=upd (upd (λt=>[Value.func (.func g) #[] capv.toArray][t]?.getD undef) 2 (zju 100000)) 3 (zju 100008))
  (hp1:=upd (upd (rst hp rs) 100000 (some zB)) 100008 (some (eB 0))) zj8 G0F hG func142 rfl (by simp [ntmps142]) call142 ⟨_,_,_,_,jjf 0⟩ ?_ h.closed ?_ (by simp [ntmps142]) (by omega) hbig ?_ ?_ ?_ ?_ ?_ ?_
 ·simpa using hids
 ·exact ⟨zak (by simp),by simp [zab],by simp,by simp⟩
 ·intro C hC hC0 hY
  repeat' first|refine gwZ ?_|refine gwW ?_|refine gwC ?_ ?_<;>intro hb
  exact ⟨trivial,rfl⟩
 ·intro k hk
  have h1:¬k=100000:=λe=>hk (hbig k (by omega))
  have h2:¬k=100008:=λe=>hk (hbig k (by omega))
  simp [h1,h2]
 ·simp [okT,zj8]
 ·simp [zj8]
 ·simp [zj8]
 ·intro C d hC hC0 hY
  refine zgm ?_
  refine zct [] (by kernel_rfl) ?_;intro Q hQ hP;simp [hC,hY,hc,hpl]
  refine zb7 (hp':=hp) h (λk hk=>?_) hG trivial ?_
  ·have:=hrs k hk
   simp [rst,hk,show ¬k=100000 by omega,show ¬k=100008 by omega]
  simp
  refine hP _ _ λyc=>?_
  simp only [zgy]
  have e:∀ k,(k<100\/k∈[100000,100008])->hpQ 0 k=upd (upd (rst hp rs) 100000 (some zB)) 100008 (some (eB 0)) k:=λk hk=>by
   rcases hk with hk|hk
   ·simp [hpQ,show ¬k=100000 by omega,show ¬k=100008 by omega,rst,hk,hG k hk]
   ·simp at hk;rcases hk with rfl|rfl<;>simp [hpQ]
  have er:rst (upd (upd (rst hp rs) 100000 (some zB)) 100008 (some (eB 0))) [100000,100008]=hpQ 0:=by rw [<-zd6 e,zds]
  refine ⟨rfl,by simp [results142,zB,eB],λk hk=>rfl,(jjf n).under e,λk hk=>?_,λk hk=>?_,?_⟩
  ·rw [er] at hk;unfold dom at hk |-
   by_cases h1:k=100000
   ·subst h1;simp
   ·by_cases h2:k=100008
    ·subst h2;simp
    ·simp only [hpQ,zag,zaq,h1,h2,if_false] at hk
     have hk100:=zif hk
     simp [h1,h2,rst,hk100,hG k hk100];exact hk
  ·rw [er]
   simp [zab] at hk
   rcases hk with rfl|rfl
   ·exact ⟨by simp [hpQ,dom],by omega,λhd=>hd (hbig _ (by omega))⟩
   ·exact ⟨by simp [hpQ,dom],by omega,λhd=>hd (hbig _ (by omega))⟩
  ·rw [er];exact λk b hk=>zlq 0 k b _ hk
end Go.Gy
