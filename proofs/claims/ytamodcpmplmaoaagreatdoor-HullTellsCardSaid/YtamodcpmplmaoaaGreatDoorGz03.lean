/-
  Lemmas of this claim, in their order (GyQ, GyT2, GyK5, GyK6, GyK7, GyDA, GyRI, GyRK, GyLA, GyV2, GyVA, GyM, GyX1, GyX2, GyX3, GyX4, GyX5, GyX6).
  Conditions: those of each theorem.
-/
import Derived.Test.YtamodcpmplmaoaaGreatDoorGz02
import Derived.RecoverIn
import Derived.Laws.Externs
set_option linter.unusedSimpArgs false
set_option linter.unusedVariables false
set_option maxRecDepth 20000
set_option maxHeartbeats 4000000
namespace Go.Gy
open Go Go.RowKit

section
variable {P:Program} {G:Hp}

def GWL (P:Program) (C:Ctx) (n:Nat) (d:List Deferred) (ro:Option Nat) (c:Code) (s:GS) (K:Exit->GS->Prop):Prop :=
 ∀ r a W,GI P C n d r s a W->∀ (b:Frame) (k:List Item) (cs:List Frame),b.roundOf=ro->(Fs P).fn b.fn ->
  ∃ e a' w',(∃ s' r',K e s'/\GI P C n d r' s' a' w')/\ArrivesIn (Machine.fenced P (Fw P ro)) P (lone (b.atR a (.code c::.inLoop c::k)) cs W) b k cs e a' w'
theorem zal {C:Ctx} {n:Nat} {d:List Deferred} {ro:Option Nat} {c:Code} {s:GS} {K:Exit->GS->Prop} (h:GWL P C n d ro c s K):GW P C n d ro (.loop c) s K:=by
 intro r a W hi b k cs hro hb hr
 obtain ⟨e,a',w',hq,harr⟩:=h r a W hi b k cs hro hb
 exact ⟨e,a',w',hq,.of_steps (.one (fenced_calm hb hr rfl) stepR_loop) harr⟩
theorem zat {C:Ctx} {n:Nat} {d:List Deferred} {ro:Option Nat} {c:Code} {s:GS} {K:Exit->GS->Prop} (h:GW P C n d ro c s (zbx (λs'=>GWL P C n d ro c s' K) K)):GWL P C n d ro c s K:=by
 intro r a W hi b k cs hro hfn
 obtain ⟨e,a₁,w₁,⟨s',r',hk,hi'⟩,harr⟩:=h r a W hi b (.inLoop c::k) cs hro hfn (zd4 P _)
 cases e with
 | normal =>
  obtain ⟨e₂,a₂,w₂,hq₂,harr₂⟩:=hk r' a₁ w₁ hi' b k cs hro hfn
  exact ⟨e₂,a₂,w₂,hq₂,.of_steps (StepsIn.trans harr (.one (fenced_calm (F:=Fw P ro) (n:=0) hfn (zd4 P _) rfl) stepR_inLoop)) harr₂⟩
 | exit id=>exact ⟨_,a₁,w₁,⟨s',r',hk,hi'⟩,.pass (x:=.inLoop c) rfl (λ_ _=>.inl (by simp)) harr⟩
 | goto l=>exact ⟨_,a₁,w₁,⟨s',r',hk,hi'⟩,.pass (x:=.inLoop c) rfl (λ_ _=>.inl (by simp)) harr⟩
 | ret=>exact ⟨_,a₁,w₁,⟨s',r',hk,hi'⟩,.pass (x:=.inLoop c) rfl (λ_ _=>.inl (by simp)) harr⟩
 | panic ch=>exact ⟨_,a₁,w₁,⟨s',r',hk,hi'⟩,.pass (x:=.inLoop c) rfl (λ_ _=>.inl (by simp)) harr⟩
 | outgrown=>exact ⟨_,a₁,w₁,⟨s',r',hk,hi'⟩,.pass (x:=.inLoop c) rfl (λ_ _=>.inl (by simp)) harr⟩
theorem ze4 {C:Ctx} {n:Nat} {d:List Deferred} {ro:Option Nat} {c rest:Code} {s:GS} {K:Exit->GS->Prop} (l:Nat) (I:Nat->GS->Prop) (hfl:findLabel c l=some (.seq .skip rest))
  (pass:∀ m s,I m s->GW P C n d ro rest s (ziq l (λs'=>∃ s'' m',Weak C s' s''/\I m' s''/\m'<m) K))
  (first:(∀ m s s',Weak C s' s->I m s->GW P C n d ro rest s' (ziq l (λs'=>∃ s'' m',Weak C s' s''/\I m' s'') K))->GW P C n d ro c s (ziq l (λs'=>∃ s'' m',Weak C s' s''/\I m' s'') K)):GW P C n d ro (.scope c) s K :=
 z1w l I hfl (first λm s s' hw hI=>zqf hw (zcb (pass m s hI) λe s h=>by
  cases e<;>first|exact h|exact ⟨h.1,let ⟨s'',m',h1,h2,_⟩:=h.2;⟨s'',m',h1,h2⟩⟩)) λm s hI=>zho (zw0 (pass m s hI))
@[simp] theorem jc8 (k:IntKind) (T:TypeId) (v:Value) (C:Eff->Prop):z63 (some (.int k)) T v C=C (val (.iface T v) []):=nr rfl

theorem zsx {n B:Nat} {hp:Hp} {ts:Nat->Value} {r:Nat->Nat} {a:Act} {W:World} (hGF:zbo G) (hsz:a.tmps.size=n) (hd:a.defers=[]) (hrel:Rel r (dom hp) ts a)
  (hsat:Sat r (dom hp) hp W) (hinj:Inj r (dom hp)) (hlow:∀ k,k<100->dom hp k->r k=k) (hG:∀ k,k<100->hp k=G k) (hfree:∀ x,B<=x->hp x=none) (hB:100<=B) :
  GI P ⟨zdt W (imO r hp),hp,r,G,some .still⟩ n [] r ⟨ts,hp,B,0⟩ a W:=by
 have ltW:∀ k,dom hp k->r k<W.heap.size:=λk hk=>by
  unfold dom at hk
  cases hb:hp k with
  | none=>exact absurd hb hk
  | some b=>exact (Array.getElem?_eq_some_iff.1 (hsat k b hb).1).1
 exact ⟨⟨hsz,hrel,hsat,hinj,⟨λk=>k<W.heap.size/\¬imO r hp k,[],⟨λ_=>Iff.rfl,rfl,rfl,rfl,Nat.le_refl _,λ_ _=>rfl⟩,λk hk=>hk.1,λi hi _ hS=>hS.2 ⟨i,hi,rfl⟩,⟨by simp [hd],List.nodup_nil⟩,by simp⟩,
   λi hi=>⟨hi,rfl⟩,hG,hlow⟩,hfree,hB,hGF,λy hy=>by cases hy;exact ⟨λc x S W _ hx=>by simp [YG.still] at hx,trivial⟩⟩

theorem RI.still {C:Ctx} {n:Nat} {d:List Deferred} {r:Nat->Nat} {ts:Nat->Value} {hp:Hp} {yc:Nat} {a:Act} {W:World} (h:RI C n d r ts hp yc a W) (hY:C.Y=some .still):a.defers=d:=by
 obtain ⟨S,ms,_,_,_,⟨h4,_⟩,h5⟩:=h.ext
 cases ms with
 | nil=>simpa using h4
 | cons D ms=>exact absurd hY (h5 D (by simp)).2.2

theorem zz5 {C:Ctx} {n:Nat} {d:List Deferred} {r r':Nat->Nat} {ts:Nat->Value} {hp hp0:Hp} {yc:Nat} {a':Act} {W W':World} {ws:List (Nat×Blk)} (h:RI C n d r' ts hp yc a' W') (hE:C.E=zdt W (imO r hp0))
  (hk0:∀ k,dom hp0 k->dom C.hp0 k/\C.r0 k=r k) (hsat:Sat r (dom hp0) hp0 W) (hcl:∀ k b,hp0 k=some b->b.ids (dom hp0)) (hhp:∀ k,dom hp0 k->hp k=zbi hp0 ws k)
  (hws:∀ k∈zaa ws,dom hp0 k) (once:∀ k b c,(k,b)∈ws->(k,c)∈ws->b=c) (hid:∀ p∈ws,p.2.ids (dom hp0)):(∀ k,dom hp0 k->r' k=r k)/\Turn r (zc7 (dom hp0) []) W W' ws []:=by
 obtain ⟨S,ms,hX,hS1,hS2,_,_⟩:=h.ext
 rw [hE] at hX
 obtain ⟨hS,os,tape,output,size,hsame⟩:=hX
 have hkeep:∀ i,dom hp0 i->dom hp i/\r' i=r i:=λi hi=>by
  have h1:=hk0 i hi
  have h2:=h.keep i h1.1
  exact ⟨h2.1,h2.2.trans h1.2⟩
 refine ⟨λk hk=>(hkeep k hk).2,os,tape,output,size,λk hk hnw=>?_,λp hp1=>?_,by simp,by simp⟩
 ·by_cases hk':imO r hp0 k
  ·obtain ⟨i,hi1,rfl⟩:=hk'
   have hiw:i∉zaa ws:=λhm=>by obtain ⟨p,hp1,rfl⟩:=zag.1 hm;exact hnw p hp1 rfl
   cases hb:hp0 i with
   | none=>exact absurd hb hi1
   | some b =>
    have e:hp i=some b:=by rw [hhp i hi1,za6 hiw];exact hb
    have:=(h.sat i b e).1
    rw [(hkeep i hi1).2,Blk.obj_congr (λk hk=>(hkeep k hk).2) (hcl i b hb)] at this
    rw [this,(hsat i b hb).1]
  ·exact hsame k ((hS k).2 ⟨hk,hk'⟩)
 ·simp only [List.append_nil] at hp1
  have hdm:dom hp0 p.1:=hws p.1 (zag.2 ⟨p,hp1,rfl⟩)
  have e:hp p.1=some p.2:=by rw [hhp _ hdm];exact zp1 hp1 once
  have:=(h.sat _ _ e).1
  have hi:=hid p hp1
  rw [(hkeep _ hdm).2,Blk.obj_congr (λk hk=>(hkeep k hk).2) hi] at this
  exact ⟨this,Blk.ids_mono (λk hk=>.inl hk) hi⟩

theorem jbg {r:Nat->Nat} {D:Nat->Prop} {A:Array Value} {ds:List Deferred} (h:∀ x∈A,zap D x):Rel r D (λt=>A.getD t undef) { tmps:=A.map (ren r),defers:=ds }:=λt=>by
 right
 dsimp only
 by_cases ht:t<A.size
 ·have e:A.getD t undef=A[t]:=by simp [Array.getD,ht]
  rw [e]
  exact ⟨by simp [Array.getD,ht],h _ (Array.getElem_mem ht)⟩
 ·have e:A.getD t undef=undef:=by simp [Array.getElem?_eq_none (Nat.le_of_not_lt ht)]
  rw [e]
  exact ⟨by rw [zci];simp [Array.getElem?_eq_none (Nat.le_of_not_lt ht)],zcv _⟩

def jhy (pv:Value):FrameMode:=.panicking [{ v:=pv,recovered:=true }]
def jhj (pv:Value):FrameMode:=.panicking [{ v:=pv,recovered:=false }]

structure RecF (P:Program) (G:Hp) (h:FuncId) (caps:Array Value) (hp:Hp) (rs:List Nat) (pv:Value) (ws:List (Nat×Blk)):Prop where
 fn:∃ fn,P.funcs[h]? = some fn
 enter:∀ a w,(callFunc h a).run P w=.ok (.enter h a) w
 back:∀ args W,args.size=caps.size->CallsDIn (Fs P) 0 P h args .returning W λe u' W'=>(∃ v,e=.returned v)/\u'=.returning/\W'=W
 caught:∀ r W,Sat r (dom (rst hp rs)) (rst hp rs) W->Inj r (dom (rst hp rs))->(∀ k,k<100->dom (rst hp rs) k->r k=k) ->
  CallsDIn (Fs P) 0 P h (caps.map (ren r)) (jhj pv) W λe u' W'=>(∃ v,e=.returned v)/\u'=jhy pv/\Turn r (zc7 (dom (rst hp rs)) []) W W' ws []

theorem zoj {h:FuncId} {fn:Func} {id:Nat} {ops:Array Oper} {rest:Code} {caps A:Array Value} {hp:Hp} {rs:List Nat} {pv:Value} {ws:List (Nat×Blk)} {B:Nat} (hGF:zbo G) (hG:∀ k,k<100->hp k=G k)
  (hf:P.funcs[h]? = some fn) (hb:fn.body=some (.seq (.region id ops false) rest)) (hA:A.size=fn.ntmps) (hids:∀ x∈A,zap (dom (rst hp rs)) x)
  (hfirst:∀ (r:Nat->Nat) (c₀:Frame) (cs:List Frame) (W:World) (Q:Exit->Act->List Frame->World->Prop),c₀.mode=jhj pv->Q .normal { tmps:=A.map (ren r),defers:=[] } ({ c₀ with mode:=jhy pv }::cs) W ->
   wpOpsSIn (Fs P) 0 P ops Q (List.range ops.size) { tmps:=caps.map (ren r)++Array.replicate (fn.ntmps - (caps.map (ren r)).size) undef,defers:=[] } (c₀::cs) W)
  (hcl:∀ k b,rst hp rs k=some b->b.ids (dom (rst hp rs))) (hws:∀ k∈zaa ws,dom (rst hp rs) k) (once:∀ k b c,(k,b)∈ws->(k,c)∈ws->b=c) (hid:∀ p∈ws,p.2.ids (dom (rst hp rs)))
  (hB:100<=B) (hfree:∀ x,B<=x->rst hp rs x=none)
  (hrest:∀ C:Ctx,C.G=G->C.hp0=rst hp rs->C.Y=some .still->GW P C fn.ntmps [] none rest ⟨λt=>A.getD t undef,rst hp rs,B,0⟩ λe s=>(e=.normal\/e=.ret)/\(zn1 P fn.results.toList s.ts s.hp).isSome=true/\∀ k,dom (rst hp rs) k->s.hp k=zbi (rst hp rs) ws k)
  (r:Nat->Nat) (W:World) (hsat:Sat r (dom (rst hp rs)) (rst hp rs) W) (hinj:Inj r (dom (rst hp rs))) (hlow:∀ k,k<100->dom (rst hp rs) k->r k=k) :
  CallsDIn (Fs P) 0 P h (caps.map (ren r)) (jhj pv) W λe u' W'=>(∃ v,e=.returned v)/\u'=jhy pv/\Turn r (zc7 (dom (rst hp rs)) []) W W' ws []:=by
 refine callsDIn_of_wpSIn hf hb ⟨fn,hf⟩ λc₀ cs hu=>wpSIn_seq (wpSIn_region (hfirst r c₀ cs W _ hu (wpSIn_of_wpIn rfl ?_)))
 have hi:=zsx (P:=P) (B:=B) (n:=fn.ntmps) (ts:=λt=>A.getD t undef) (a:={ tmps:=A.map (ren r),defers:=[] }) hGF (by simp [hA]) rfl (jbg hids) hsat hinj hlow (λk hk=>by simp [rst,hk,hG k hk]) hfree hB
 refine wpIn_mono (hrest _ rfl rfl rfl r _ W hi) ?_
 rintro e a' W' ⟨s',r',⟨he,hr,hhp⟩,hi'⟩
 have hd:=hi'.ri.still rfl
 have ht:=zz5 hi'.ri (r:=r) (hp0:=rst hp rs) rfl (λk hk=>⟨hk,rfl⟩) hsat hcl hhp hws once hid
 cases hv:zn1 P fn.results.toList s'.ts s'.hp with
 | none=>rw [hv] at hr;cases hr
 | some v =>
  have hrun:=zdn (fn:=fn) hi'.ri.rel hi'.ri.sat hv
  rcases he with rfl|rfl
  ·exact ⟨hd,_,rfl,_,hrun,⟨_,rfl⟩,rfl,ht.2⟩
  ·exact ⟨hd,_,rfl,_,hrun,⟨_,rfl⟩,rfl,ht.2⟩

theorem zxj {h:FuncId} {fn:Func} {c:Code} {k:Nat} (hf:P.funcs[h]? = some fn) (hb:fn.body=some c)
  (hw:∀ (args:Array Value) (c₀:Frame) (cs:List Frame) (W:World),args.size=k->c₀.mode=.returning ->
   c.wpSIn (Fs P) 0 P (λe a cs' W'=>(e=.normal\/e=.ret)/\a.defers=[]/\cs'=c₀::cs/\W'=W/\∃ v,(results fn a.tmps).run P W=.ok v W) { tmps:=args++Array.replicate (fn.ntmps - args.size) undef,defers:=[] } (c₀::cs) W)
  (args:Array Value) (W:World) (hk:args.size=k):CallsDIn (Fs P) 0 P h args .returning W λe u' W'=>(∃ v,e=.returned v)/\u'=.returning/\W'=W:=by
 refine callsDIn_of_wpSIn hf hb ⟨fn,hf⟩ λc₀ cs hu=>?_
 intro b k' hb hr hF hroom
 obtain ⟨e,a',cs',w',hl,⟨he,hd,rfl,rfl,v,hv⟩,harr⟩:=hw args c₀ cs W hk hu b k' hb hr hF hroom
 refine ⟨e,a',_,_,hl,?_,harr⟩
 have hc:({ c₀ with mode:=.returning }:Frame)=c₀:=by rw [<-hu]
 rcases he with rfl|rfl
 ·exact ⟨hd,.returning,by rw [hc],v,hv,⟨_,rfl⟩,rfl,rfl⟩
 ·exact ⟨hd,.returning,by rw [hc],v,hv,⟨_,rfl⟩,rfl,rfl⟩

theorem RecF.under {h:FuncId} {caps:Array Value} {hp hp':Hp} {rs:List Nat} {pv:Value} {ws:List (Nat×Blk)} (hr:RecF P G h caps hp' rs pv ws) (e:∀ k,(k<100\/k∈rs)->hp' k=hp k):RecF P G h caps hp rs pv ws :=
 ⟨hr.fn,hr.enter,hr.back,by rw [<-zfa e];exact hr.caught⟩

theorem zoo {n:Nat} {id t:Nat} {h:FuncId} {cs:Array Operand} {ty1 ty2:TypeId} {ps1 ps2:String} {af2:Array Edge} {Q:Exit->Act->World->Prop} {a:Act} {W:World} (ht:t<a.tmps.size)
  (hQ:Q .normal { a.put (some t) (.func (.func h) #[] (cs.map a.eval)) with defers:=⟨.fn (.func h) (cs.map a.eval),#[]⟩::a.defers } W) :
  (Code.region id [⟨some t,.makeFunc (.func h) #[] cs,ty1,ps1,#[],none⟩,⟨none,.defer ⟨.value (.tmp t),#[],#[]⟩,ty2,ps2,af2,none⟩].toArray false).wpIn (Fw P none) n P Q a W:=by
 refine wpIn_region_lit (wpListIn_plain rfl λK hK=>?_)
 refine ⟨λf hf=>by simp [Oper.about] at hf,?_⟩
 have e:(Fw P none).round=none:=rfl
 rw [e,Oper.semAt_none]
 have hrun:(execOp a.eval ⟨some t,.makeFunc (.func h) #[] cs,ty1,ps1,#[],none⟩).run P W=.ok (.value (.func (.func h) #[] (cs.map a.eval))) W:=by
  simp [execOp,Instr.makeFunc]
 rw [hrun]
 refine hK _ _ (wpListIn_plain rfl λK hK=>?_)
 refine ⟨λf hf=>by simp [Oper.about] at hf,?_⟩
 rw [e,Oper.semAt_none]
 have hev:(a.put (some t) (.func (.func h) #[] (cs.map a.eval))).eval (.tmp t)=.func (.func h) #[] (cs.map a.eval):=by simp [Act.eval,Act.put,ht]
 have hrun:(execOp (a.put (some t) (.func (.func h) #[] (cs.map a.eval))).eval ⟨none,.defer ⟨.value (.tmp t),#[],#[]⟩,ty2,ps2,af2,none⟩).run P W=.ok (.defer ⟨.fn (.func h) (cs.map a.eval),#[]⟩) W:=by
  simp [execOp,resolve,hev,Deferred.ofValue]
 dsimp only
 rw [hrun]
 exact hK _ _ (wpListIn_nil hQ)

inductive REnd
 | ret (v:Value) (ws:List (Nat×Blk))
 | pan (pv:Value) (rs1:List Nat) (ws1:List (Nat×Blk)) (v:Value)
def REnd.res:REnd->Res
 | .ret v ws=>.ret v ws
 | .pan _ _ _ v=>.ret v []
def jn3 (P:Program) (G:Hp) (fn:Func) (h:FuncId) (capsD:Array Value) (hp hp1:Hp) (out:REnd) (e:Exit) (s:GS):Prop :=
 match out with
 | .ret v ws=>(e=.normal\/e=.ret)/\zn1 P fn.results.toList s.ts s.hp=some v/\∀ k,dom hp k->s.hp k=zbi hp ws k
 | .pan pv rs1 ws1 v=>e=.panic [{ v:=pv,recovered:=false }]/\zn1 P fn.results.toList s.ts (zbi s.hp ws1)=some v/\(∀ k,dom hp1 k->s.hp k=hp1 k)/\RecF P G h capsD hp1 rs1 pv ws1/\(∀ k,dom (rst hp1 rs1) k->dom hp1 k) /\
   (∀ k∈zaa ws1,dom (rst hp1 rs1) k/\100<=k/\¬dom hp k)/\(∀ k b,rst hp1 rs1 k=some b->b.ids (dom (rst hp1 rs1)))

theorem zqy {f h:FuncId} {fn:Func} {R0 rest:Code} {id t:Nat} {cs:Array Operand} {ty1 ty2:TypeId} {ps1 ps2:String} {af2:Array Edge} {args:Array Value} {hp hp1:Hp} {rs:List Nat} {ts1:Nat->Value} {B B1:Nat} {out:REnd} (capsD:Array Value)
  (hGF:zbo G) (hG:∀ k,k<100->hp k=G k) (hf:P.funcs[f]? = some fn)
  (hb:fn.body=some (.seq R0 (.seq (.region id [⟨some t,.makeFunc (.func h) #[] cs,ty1,ps1,#[],none⟩,⟨none,.defer ⟨.value (.tmp t),#[],#[]⟩,ty2,ps2,af2,none⟩].toArray false) rest))) (ht:t<fn.ntmps)
  (hcall:∀ a w,(callFunc f a).run P w=.ok (.enter f a) w) (hback:∃ pv hp rs ws,RecF P G h capsD hp rs pv ws)
  (ha:∀ x∈args,zap (dom (rst hp rs)) x) (hcl:∀ k b,rst hp rs k=some b->b.ids (dom (rst hp rs))) (hfit:out.res.fits hp rs) (hn:args.size<=fn.ntmps) (hB:100<=B) (hfree:∀ x,B<=x->rst hp rs x=none)
  (hR0:∀ C:Ctx,C.G=G->C.hp0=rst hp rs->C.Y=some .still->GW P C fn.ntmps [] none R0 ⟨λt=>args.getD t undef,rst hp rs,B,0⟩ λe s=>e=.normal/\s=⟨ts1,hp1,B1,0⟩)
  (hsub:∀ k,dom (rst hp rs) k->hp1 k=rst hp rs k)
  (hcs:∀ o∈cs.toList,okT ts1 o/\∃ t',o=.tmp t') (hcd:cs.map (gev ts1)=capsD) (hpl:∀ x∈capsD,zbr x=true)
  (hrest:∀ (C:Ctx) (d:List Deferred),C.G=G->C.hp0=hp1->C.Y=some .still->GW P C fn.ntmps d none rest ⟨upd ts1 t (.func (.func h) #[] capsD),hp1,B1,0⟩ (jn3 P G fn h capsD (rst hp rs) hp1 out)) :
  Fun P G f args hp rs out.res:=by
 refine ⟨hcall,ha,hcl,hfit,λr W hgok hsat hinj hlow=>callsIn_of_wp_defers hf hb ⟨fn,hf⟩ ?_⟩
 have hi:=zsx (P:=P) (B:=B) (n:=fn.ntmps) (ts:=λt=>args.getD t undef) (a:={ tmps:=args.map (ren r)++Array.replicate (fn.ntmps - (args.map (ren r)).size) undef,defers:=[] }) hGF (by simp;omega) rfl ?_ hsat hinj hlow
  (λk hk=>by simp [rst,hk,hG k hk]) hfree hB
 ·refine wpIn_seq (wpIn_mono (hR0 _ rfl rfl rfl r _ W hi) ?_)
  rintro e a1 W1 ⟨s1,r1,⟨rfl,rfl⟩,hi1⟩
  have hd1:a1.defers=[]:=hi1.ri.still rfl
  have hev:cs.map a1.eval=capsD.map (ren r1):=by
   rw [<-hcd,Array.map_map]
   refine Array.map_congr_left λo ho=>?_
   obtain ⟨h1,t',rfl⟩:=hcs o (by simpa using ho)
   have h2:nj (ts1 t'):=h1
   have h3:=(hi1.ri.rel t').resolve_left (λe=>by dsimp only at e;rw [e] at h2;exact absurd h2 (by simp [nj,zcm]))
   exact h3.1
  have hids:∀ x∈capsD,zap (dom hp1) x:=λx hx=>by
   rw [<-hcd] at hx
   obtain ⟨o,ho,rfl⟩:=Array.mem_map.1 hx
   obtain ⟨h1,t',rfl⟩:=hcs o (by simpa using ho)
   have h2:nj (ts1 t'):=h1
   have h3:=(hi1.ri.rel t').resolve_left (λe=>by dsimp only at e;rw [e] at h2;exact absurd h2 (by simp [nj,zcm]))
   exact h3.2
  refine wpIn_seq (zoo (by rw [hi1.ri.size];exact ht) ?_)
  rw [hev,hd1]
  have hclo:ren r1 (.func (.func h) #[] capsD)=.func (.func h) #[] (capsD.map (ren r1)):=by
   have e:capsD.map (zan r1)=capsD.map (ren r1):=Array.map_congr_left λx hx=>(zcf (hpl x hx)).symm
   simp [ren,zay,zak,e]
  have hi2:GI P ⟨zdt W (imO r (rst hp rs)),hp1,r1,G,some .still⟩ fn.ntmps [⟨.fn (.func h) (capsD.map (ren r1)),#[]⟩] r1 ⟨upd ts1 t (.func (.func h) #[] capsD),hp1,B1,0⟩
    { a1.put (some t) (.func (.func h) #[] (capsD.map (ren r1))) with defers:=[⟨.fn (.func h) (capsD.map (ren r1)),#[]⟩] } W1:=by
   have:=hi1.ri.put (dst:=some t) (v:=.func (.func h) #[] capsD) (λd hd=>by cases hd;exact ht) ⟨by simp,λx hx=>(zb1 (hpl x hx)).1 (hids x hx)⟩
   rw [hclo] at this
   obtain ⟨S,ms,h1,h2,h3,h4,h5⟩:=hi1.ri.ext
   exact ⟨⟨this.size,this.rel,this.sat,this.inj,⟨S,[],h1,h2,h3,⟨rfl,List.nodup_nil⟩,by simp⟩,λi hi=>⟨hi,rfl⟩,this.glob,this.low⟩,hi1.free,hi1.low,hGF,λy hy=>by cases hy;exact ⟨λc x S W _ hx=>by simp [YG.still] at hx,trivial⟩⟩
  refine wpIn_mono (hrest _ _ rfl rfl rfl r1 _ W1 hi2) ?_
  rintro e a' W' ⟨s',r',hpost,hi'⟩
  have hd:=hi'.ri.still rfl
  have hag:∀ k,dom (rst hp rs) k->dom hp1 k/\r1 k=r k:=λk hk=>⟨by unfold dom at hk |-;rw [hsub k hk];exact hk,(hi1.ri.keep k hk).2⟩
  have hlead:∀ (W:World) g,(Target.fn (.func h) (capsD.map (ren r1))).leads P W #[]=some g->(Fw P none).fn g:=λW g hg=>by
   simp [Target.leads] at hg
   subst hg
   obtain ⟨_,_,_,_,hr⟩:=hback
   exact hr.fn
  have hinv:∀ W:World,(invoke (.fn (.func h) (capsD.map (ren r1))) #[]).run P W=.ok (.enter h (capsD.map (ren r1))) W:=λW=>by
   obtain ⟨_,_,_,_,hr⟩:=hback
   simp [invoke,hr.enter]
  cases out with
  | ret v ws =>
   obtain ⟨he,hr,hhp⟩:=hpost
   have key:LeavesIn (Fw P none) 0 P fn a'.tmps ((Res.ret v ws).holds r (dom (rst hp rs)) W) a'.defers .returning W':=by
    rw [hd]
    refine leavesIn_cons (by simp) (λh=>by cases h) (hinv W') (hlead W') ?_
    obtain ⟨_,_,_,_,hr'⟩:=hback
    refine CallsDIn.mono (hr'.back _ W' (by simp)) ?_
    rintro e u' W'' ⟨⟨v',rfl⟩,rfl,rfl⟩
    have hrun:=zdn (fn:=fn) hi'.ri.rel hi'.ri.sat hr
    have hend:=zz5 hi'.ri (r:=r) (hp0:=rst hp rs) rfl hag hsat hcl hhp (λk hk=>by
     have:=hfit.2.1 k hk;unfold dom rst at *;simp [this.1];exact this.2.1) hfit.2.2.1 hfit.2.2.2
    rw [zcy (λk hk=>hend.1 k hk) hfit.1] at hrun
    exact ⟨_,hrun,rfl,hend.2⟩
   rcases he with rfl|rfl<;>exact key
  | pan pv rs1 ws1 v =>
   obtain ⟨rfl,hr,hhp,hrec,hd1',hk1,hcl1⟩:=hpost
   show LeavesIn (Fw P none) 0 P fn a'.tmps ((Res.ret v []).holds r (dom (rst hp rs)) W) a'.defers (.panicking _) W'
   rw [hd]
   refine leavesIn_cons (by simp) (λh=>by cases h) (hinv W') (hlead W') ?_
   have hr1:∀ k,dom hp1 k->r' k=r1 k:=λk hk=>(hi'.ri.keep k hk).2
   have hsub1:∀ k,dom (rst hp1 rs1) k->s'.hp k=rst hp1 rs1 k:=λk hk=>by
    rw [hhp k (hd1' k hk)]
    unfold dom rst at hk
    unfold rst
    split
    ·rfl
    ·rename_i hh;simp [hh] at hk
   have hcap:capsD.map (ren r1)=capsD.map (ren r'):=Array.map_congr_left λx hx=>zcy (λk hk=>(hr1 k hk).symm) (hids x hx)
   rw [hcap]
   have dsub:∀ k,dom (rst hp1 rs1) k->dom s'.hp k:=λk hk=>by unfold dom;rw [hsub1 k hk];exact hk
   refine CallsDIn.mono (hrec.caught r' W' (λk b hk=>?_) (λk l hk hl=>hi'.ri.inj k l (dsub k hk) (dsub l hl)) (λk hk hk'=>hi'.ri.low k hk (dsub k hk'))) ?_
   ·refine ⟨(hi'.ri.sat k b ?_).1,hcl1 k b hk⟩
    rw [hsub1 k (by unfold dom;rw [hk];simp)];exact hk
   rintro e u' W'' ⟨⟨v',rfl⟩,rfl,hturn⟩
   have hset:settle (jhy pv)=.returning:=rfl
   show LeavesIn _ _ _ _ _ _ [] (settle (jhy pv)) W''
   rw [hset]
   have hri:RI ⟨zdt W (imO r (rst hp rs)),hp1,r1,G,some .still⟩ fn.ntmps [⟨.fn (.func h) (capsD.map (ren r1)),#[]⟩] r' (zcx s'.ts none undef) (zbi s'.hp (ws1++[])) s'.yc (a'.put none (ren r' undef)) W'':=by
    refine hi'.ri.after (e:=⟨undef,[],ws1,[],none,false⟩) (λ_ h=>by cases h) (λ_ _=>rfl) (zcv _) ?_ (λk hk=>⟨dsub k (hk1 k hk).1,(hk1 k hk).2.1⟩) (by simp [zaa])
    have mono:∀ k,zc7 (dom (rst hp1 rs1)) [] k->zc7 (dom s'.hp) [] k:=λk hk=>hk.imp (dsub k) (λh=>h)
    exact ⟨hturn.os,hturn.tape,hturn.output,hturn.size,hturn.same,λp hp1=>⟨(hturn.has p hp1).1,Blk.ids_mono mono (hturn.has p hp1).2⟩,hturn.fresh,hturn.apart⟩
   simp only [List.append_nil] at hri
   have hrun:=zdn (fn:=fn) hri.rel hri.sat hr
   have hend:=zz5 hri (r:=r) (hp0:=rst hp rs) (ws:=[]) rfl hag hsat hcl (λk hk=>by
    simp only [zbi]
    rw [za6 (λhm=>(hk1 k hm).2.2 hk),hhp k (hag k hk).1,hsub k hk]) (by simp [zaa]) (by simp) (by simp)
   rw [zcy (λk hk=>hend.1 k hk) hfit.1] at hrun
   exact ⟨_,hrun,rfl,hend.2⟩
 ·intro t
  right
  dsimp only
  by_cases ht:t<args.size
  ·have hm:args[t]∈args:=Array.getElem_mem ht
   have e:args.getD t undef=args[t]:=by simp [Array.getD,ht]
   rw [e]
   refine ⟨?_,ha _ hm⟩
   have:t<(args.map (ren r)).size:=by simpa using ht
   simp [Array.getElem?_append_left this,ht]
  ·have e:args.getD t undef=undef:=by simp [Array.getElem?_eq_none (Nat.le_of_not_lt ht)]
   rw [e]
   refine ⟨?_,zcv _⟩
   rw [zci]
   simp only [Array.getD_eq_getD_getElem?]
   rw [Array.getElem?_append_right (by simpa using Nat.le_of_not_lt ht),Array.getElem?_replicate]
   split<;>rfl
end
section
variable {P:Program} {G:Hp}
theorem zm5 {ρ:Nat->Nat} {D D':Nat->Prop} (h:∀ k,D k->D' (ρ k)) {v:Value} (hv:zax D v):zax D' (zay ρ v):=by
 cases v with
 | agg cs =>
  intro x hx
  obtain ⟨y,hy,rfl⟩:=Array.mem_map.1 hx
  exact zkh h (hv y hy)
 | func f a b=>exact zkh (v:=.func f a b) h hv
 | iface t v=>exact zkh (v:=.iface t v) h hv
 | pointer p=>cases p<;>first|exact h _ hv|trivial
 | slice p _ _=>cases p<;>first|exact h _ hv|trivial
 | map p=>cases p<;>first|exact h _ hv|trivial
 | _=>trivial
theorem zf6 {ρ:Nat->Nat} {D D':Nat->Prop} (h:∀ k,D k->D' (ρ k)) {v:Value} (hv:zap D v):zap D' (ren ρ v):=by
 cases v with
 | tuple vs =>
  intro x hx
  obtain ⟨y,hy,rfl⟩:=Array.mem_map.1 hx
  exact zm5 h (hv y hy)
 | agg cs=>exact zm5 (v:=.agg cs) h hv
 | func f a b=>exact zm5 (v:=.func f a b) h hv
 | iface t v=>exact zm5 (v:=.iface t v) h hv
 | pointer p=>cases p<;>first|exact h _ hv|trivial
 | slice p _ _=>cases p<;>first|exact h _ hv|trivial
 | map p=>cases p<;>first|exact h _ hv|trivial
 | _=>trivial
theorem Rn.bflat {ρ:Nat->Nat} {hp:Hp} (hGF:zbo G) (hG:∀ k,k<100->hp k=G k) {k:Nat} {b:Blk} (hk:k<100) (hb:hp k=some b):b.rn ρ=b:=by
 have hg:G k=some b:=(hG k hk).symm.trans hb
 exact Blk.rn_flat (hGF k b hg).2
theorem Rn.back {ρ:Nat->Nat} {hp hp':Hp} {rs:List Nat} (hGF:zbo G) (hG:∀ k,k<100->hp k=G k) (h:Rn ρ hp hp' rs) (k:Nat) (b:Blk) (hb:rst hp' (rs.map ρ) k=some b):∃ q c,rst hp rs q=some c/\ρ q=k/\b=c.rn ρ:=by
 unfold rst at hb
 by_cases h1:k<100
 ·simp only [h1,true_or,if_true] at hb
  have hl:=h.low k h1
  rw [hl.2] at hb
  exact ⟨k,b,by simp [rst,h1,hb],hl.1,(Rn.bflat hGF hG h1 hb).symm⟩
 ·by_cases hm:k∈rs.map ρ
  ·obtain ⟨q,hq,rfl⟩:=List.mem_map.1 hm
   simp only [hm,or_true,if_true] at hb
   have hq1:100<=q:=by
    by_cases hq1:100<=q
    ·exact hq1
    ·exact absurd (by rw [(h.low q (by omega)).1];omega) h1
   obtain ⟨c,e1,e2⟩:=h.at' q hq hq1
   rw [e2] at hb;cases hb
   exact ⟨q,c,by simp [rst,hq,e1],rfl,rfl⟩
  ·simp [h1,hm] at hb
theorem Rn.mem {hp:Hp} {rs:List Nat} {k:Nat} (hk:dom (rst hp rs) k) (h1:100<=k):k∈rs:=by
 unfold dom rst at hk
 by_cases hm:k∈rs
 ·exact hm
 ·simp [hm] at hk;omega
theorem Rn.sat {ρ:Nat->Nat} {hp hp':Hp} {rs:List Nat} (hGF:zbo G) (hG:∀ k,k<100->hp k=G k) (h:Rn ρ hp hp' rs) (hcl:∀ k b,rst hp rs k=some b->b.ids (dom (rst hp rs))) {r:Nat->Nat} {W:World}
  (hsat:Sat r (dom (rst hp' (rs.map ρ))) (rst hp' (rs.map ρ)) W) (hinj:Inj r (dom (rst hp' (rs.map ρ)))) (hlow:∀ k,k<100->dom (rst hp' (rs.map ρ)) k->r k=k) :
  Sat (λk=>r (ρ k)) (dom (rst hp rs)) (rst hp rs) W/\Inj (λk=>r (ρ k)) (dom (rst hp rs))/\∀ k,k<100->dom (rst hp rs) k->r (ρ k)=k:=by
 refine ⟨λk b hk=>⟨?_,hcl k b hk⟩,λk l hk hl e=>?_,λk hk hd=>?_⟩
 ·have hd:dom (rst hp rs) k:=by unfold dom;rw [hk];simp
  have hd':=h.dom1 hd
  unfold dom at hd'
  cases hb:rst hp' (rs.map ρ) (ρ k) with
  | none=>exact absurd hb hd'
  | some b' =>
   have e:b'=b.rn ρ:=by
    unfold rst at hb hk
    by_cases h1:k<100
    ·have hl:=h.low k h1
     simp only [h1,true_or,if_true] at hk
     rw [hl.1] at hb
     simp only [h1,true_or,if_true] at hb
     rw [hl.2,hk] at hb
     cases hb
     exact (Rn.bflat hGF hG h1 hk).symm
    ·have hm:k∈rs:=by
      by_cases hm:k∈rs
      ·exact hm
      ·simp [h1,hm] at hk
     simp only [hm,or_true,if_true] at hk
     obtain ⟨c,e1,e2⟩:=h.at' k hm (by omega)
     rw [hk] at e1;cases e1
     have hm':ρ k∈rs.map ρ:=List.mem_map.2 ⟨k,hm,rfl⟩
     simp only [hm',or_true,if_true] at hb
     rw [e2] at hb;cases hb;rfl
   have:=(hsat _ b' hb).1
   rw [e,Blk.rn_obj] at this
   exact this
 ·have e2:=hinj _ _ (h.dom1 hk) (h.dom1 hl) e
  by_cases h1:k<100
  ·by_cases h2:l<100
   ·rw [(h.low k h1).1,(h.low l h2).1] at e2;exact e2
   ·have:=h.big l (Rn.mem hl (by omega)) (by omega)
    rw [(h.low k h1).1] at e2;omega
  ·by_cases h2:l<100
   ·have:=h.big k (Rn.mem hk (by omega)) (by omega)
    rw [(h.low l h2).1] at e2;omega
   ·exact h.inj k (Rn.mem hk (by omega)) l (Rn.mem hl (by omega)) (by omega) (by omega) e2
 ·have:=h.dom1 hd
  rw [(h.low k hk).1] at this |-
  exact hlow k hk this
def rnL (ρ:Nat->Nat) (ws:List (Nat×Blk)):List (Nat×Blk):=ws.map λp=>(ρ p.1,p.2.rn ρ)
theorem zjt {ρ:Nat->Nat} {ws:List (Nat×Blk)} {k:Nat} (h:k∈zaa (rnL ρ ws)):∃ q∈zaa ws,ρ q=k:=by
 simp only [zaa,rnL,List.map_map,List.mem_map,Function.comp] at h |-
 obtain ⟨p,hp,rfl⟩:=h
 exact ⟨p.1,⟨p,hp,rfl⟩,rfl⟩
theorem Fun.rn {f:FuncId} {args:Array Value} {hp hp':Hp} {rs:List Nat} {v:Value} {ws:List (Nat×Blk)} (ρ:Nat->Nat) (hGF:zbo G) (hG:∀ k,k<100->hp k=G k) (h:Rn ρ hp hp' rs) (hi:Fun P G f args hp rs (.ret v ws)) :
  Fun P G f (args.map (ren ρ)) hp' (rs.map ρ) (.ret (ren ρ v) (rnL ρ ws)):=by
 refine ⟨hi.enter,λx hx=>?_,λk b hb=>?_,⟨zf6 (λk hk=>h.dom1 hk) hi.fits.1,λk hk=>?_,λk b c h1 h2=>?_,λp hp1=>?_⟩,λr W hgok hsat hinj hlow=>?_⟩
 ·obtain ⟨y,hy,rfl⟩:=Array.mem_map.1 hx
  exact zf6 (λk hk=>h.dom1 hk) (hi.ids y hy)
 ·obtain ⟨q,c,h1,rfl,rfl⟩:=h.back hGF hG k b hb
  exact Blk.ids_rn (λk hk=>h.dom1 hk) (hi.closed q c h1)
 ·obtain ⟨q,hq,rfl⟩:=zjt hk
  have h1:=hi.fits.2.1 q hq
  obtain ⟨c,e1,e2⟩:=h.at' q h1.1 h1.2.2
  exact ⟨List.mem_map.2 ⟨q,h1.1,rfl⟩,by unfold dom;rw [e2];simp,h.big q h1.1 h1.2.2⟩
 ·simp only [rnL,List.mem_map,Prod.mk.injEq] at h1 h2
  obtain ⟨p,hp1,e1,rfl⟩:=h1
  obtain ⟨q,hq1,e2,rfl⟩:=h2
  have k1:=hi.fits.2.1 p.1 (zag.2 ⟨p,hp1,rfl⟩)
  have k2:=hi.fits.2.1 q.1 (zag.2 ⟨q,hq1,rfl⟩)
  have e3:=h.inj p.1 k1.1 q.1 k2.1 k1.2.2 k2.2.2 (e1.trans e2.symm)
  have e4:=hi.fits.2.2.1 p.1 p.2 q.2 hp1 (by rw [e3];exact hq1)
  rw [e4]
 ·simp only [rnL,List.mem_map] at hp1
  obtain ⟨p,hp1,rfl⟩:=hp1
  exact Blk.ids_rn (λk hk=>h.dom1 hk) (hi.fits.2.2.2 p hp1)
 ·obtain ⟨s1,s2,s3⟩:=h.sat hGF hG hi.closed hsat hinj hlow
  have hrun:=hi.run (λk=>r (ρ k)) W hgok s1 s2 s3
  have ha:(args.map (ren ρ)).map (ren r)=args.map (ren λk=>r (ρ k)):=by
   rw [Array.map_map]
   exact Array.map_congr_left λx _=>zcn r ρ x
  rw [ha]
  refine hrun.mono λe W' ⟨he,ht⟩=>⟨?_,ht.os,ht.tape,ht.output,ht.size,λk hk hnw=>ht.same k hk λp hp1=>?_,λp hp1=>?_,by simp,by simp⟩
  ·rw [he,zcn]
  ·exact hnw (ρ p.1,p.2.rn ρ) (by simp only [rnL,List.mem_map];exact ⟨p,hp1,rfl⟩)
  ·simp only [List.append_nil,rnL,List.mem_map] at hp1
   obtain ⟨p,hp1,rfl⟩:=hp1
   have h1:=ht.has p (by simpa using hp1)
   exact ⟨by rw [Blk.rn_obj];exact h1.1,Blk.ids_rn (D:=zc7 (dom (rst hp rs)) []) (λk hk=>by rw [zjm] at hk |-;exact h.dom1 hk) h1.2⟩
theorem Ret.up {G':Hp} {f:FuncId} {args:Array Value} {v:Value} (h:Ret P G f args v) (hg:∀ W,GOK G' W->GOK G W):Ret P G' f args v:=⟨h.1,h.2.1,h.2.2.1,λW hW=>h.2.2.2 W (hg W hW)⟩
theorem zuf.up {G':Hp} {f:FuncId} {args:Array Value} {o:Out} (h:zuf P G f args o) (hg:∀ W,GOK G' W->GOK G W):zuf P G' f args o:=⟨h.1,h.2.1,h.2.2.1,λW hW=>h.2.2.2 W (hg W hW)⟩
end
structure FunS (P:Program) (G:Hp) (f:FuncId) (args:Array Value) (hp:Hp) (rs:List Nat) (R:Value->List (Nat×Blk)->Prop):Prop where
 enter:∀ a w,(callFunc f a).run P w=.ok (.enter f a) w
 ids:∀ x∈args,zap (dom (rst hp rs)) x
 closed:∀ k b,rst hp rs k=some b->b.ids (dom (rst hp rs))
 fits:∀ v ns,R v ns->zap (zc7 (dom (rst hp rs)) ns) v/\(∀ k∈zaa ns,100<=k/\¬dom (rst hp rs) k)/\(∀ k b c,(k,b)∈ns->(k,c)∈ns->b=c)/\∀ p∈ns,p.2.ids (zc7 (dom (rst hp rs)) ns)
 run:∀ r W,GOK G W->Sat r (dom (rst hp rs)) (rst hp rs) W->Inj r (dom (rst hp rs))->(∀ k,k<100->dom (rst hp rs) k->r k=k) ->
  zd8 P f (args.map (ren r)) W λe W'=>∃ v ns r',R v ns/\(∀ k,dom (rst hp rs) k->r' k=r k)/\e=.returned (ren r' v)/\Turn r' (zc7 (dom (rst hp rs)) ns) W W' [] ns
section
variable {P:Program} {G:Hp}
theorem FunS.under {f:FuncId} {args:Array Value} {hp hp':Hp} {rs:List Nat} {R:Value->List (Nat×Blk)->Prop} (h:FunS P G f args hp' rs R) (e:∀ k,(k<100\/k∈rs)->hp' k=hp k):FunS P G f args hp rs R:=by
 have er:rst hp' rs=rst hp rs:=zfa e
 exact ⟨h.enter,by rw [<-er];exact h.ids,by rw [<-er];exact h.closed,by rw [<-er];exact h.fits,by rw [<-er];exact h.run⟩
def RR (ρ:Nat->Nat) (R:Value->List (Nat×Blk)->Prop) (v':Value) (ns':List (Nat×Blk)):Prop:=∃ v ns,R v ns/\v'=ren ρ v/\ns'=rnL ρ ns
theorem zi6 {ρ:Nat->Nat} {ns:List (Nat×Blk)} {k:Nat} (h:k∈zaa ns):ρ k∈zaa (rnL ρ ns):=by
 obtain ⟨p,hp,rfl⟩:=zag.1 h
 exact zag.2 ⟨(ρ p.1,p.2.rn ρ),List.mem_map.2 ⟨p,hp,rfl⟩,rfl⟩
theorem FunS.rn {f:FuncId} {args:Array Value} {hp hp':Hp} {rs:List Nat} {R:Value->List (Nat×Blk)->Prop} (ρ:Nat->Nat) (hGF:zbo G) (hG:∀ k,k<100->hp k=G k) (h:Rn ρ hp hp' rs) (hi:FunS P G f args hp rs R)
  (hnew:∀ v ns,R v ns->∀ k∈zaa ns,100<=ρ k/\¬dom (rst hp' (rs.map ρ)) (ρ k)) (hnj:∀ v ns,R v ns->∀ k∈zaa ns,∀ l∈zaa ns,ρ k=ρ l->k=l) :
  FunS P G f (args.map (ren ρ)) hp' (rs.map ρ) (RR ρ R):=by
 have hext:∀ ns,∀ k,zc7 (dom (rst hp rs)) ns k->zc7 (dom (rst hp' (rs.map ρ))) (rnL ρ ns) (ρ k):=λns k hk=>hk.elim (λh1=>.inl (h.dom1 h1)) (λh1=>.inr (zi6 h1))
 refine ⟨hi.enter,λx hx=>?_,λk b hb=>?_,λv' ns' hR'=>?_,λr W hgok hsat hinj hlow=>?_⟩
 ·obtain ⟨y,hy,rfl⟩:=Array.mem_map.1 hx
  exact zf6 (λk hk=>h.dom1 hk) (hi.ids y hy)
 ·obtain ⟨q,c,h1,rfl,rfl⟩:=h.back hGF hG k b hb
  exact Blk.ids_rn (λk hk=>h.dom1 hk) (hi.closed q c h1)
 ·obtain ⟨v,ns,hR,rfl,rfl⟩:=hR'
  obtain ⟨f1,f2,f3,f4⟩:=hi.fits v ns hR
  refine ⟨zf6 (hext ns) f1,λk hk=>?_,λk b c h1 h2=>?_,λp hp1=>?_⟩
  ·obtain ⟨q,hq,rfl⟩:=zjt hk
   exact hnew v ns hR q hq
  ·simp only [rnL,List.mem_map,Prod.mk.injEq] at h1 h2
   obtain ⟨p,hp1,e1,rfl⟩:=h1
   obtain ⟨q,hq1,e2,rfl⟩:=h2
   have e3:=hnj v ns hR p.1 (zag.2 ⟨p,hp1,rfl⟩) q.1 (zag.2 ⟨q,hq1,rfl⟩) (e1.trans e2.symm)
   rw [f3 p.1 p.2 q.2 hp1 (by rw [e3];exact hq1)]
  ·simp only [rnL,List.mem_map] at hp1
   obtain ⟨p,hp1,rfl⟩:=hp1
   exact Blk.ids_rn (hext ns) (f4 p hp1)
 ·obtain ⟨s1,s2,s3⟩:=h.sat hGF hG hi.closed hsat hinj hlow
  have hrun:=hi.run (λk=>r (ρ k)) W hgok s1 s2 s3
  have ha:(args.map (ren ρ)).map (ren r)=args.map (ren λk=>r (ρ k)):=by
   rw [Array.map_map]
   exact Array.map_congr_left λx _=>zcn r ρ x
  rw [ha]
  refine hrun.mono λe W' ⟨v,ns,r1,hR,hr1,he,ht⟩=>?_
  obtain ⟨f1,f2,f3,f4⟩:=hi.fits v ns hR
  let r2:Nat->Nat:=λk'=>match (zaa ns).find? (λk=>ρ k==k') with|some k=>r1 k|none=>r k'
  have e1:∀ k∈zaa ns,r2 (ρ k)=r1 k:=λk hk=>by
   show (match (zaa ns).find? (λl=>ρ l==ρ k) with|some k=>r1 k|none=>r (ρ k))=r1 k
   cases hf:(zaa ns).find? (λl=>ρ l==ρ k) with
   | none=>have:=List.find?_eq_none.1 hf k hk;simp at this
   | some l =>
    have h1:=List.find?_some hf
    have h2:=List.mem_of_find?_eq_some hf
    simp only [beq_iff_eq] at h1
    rw [hnj v ns hR l h2 k hk h1]
  have e2:∀ k,dom (rst hp' (rs.map ρ)) k->r2 k=r k:=λk hk=>by
   show (match (zaa ns).find? (λl=>ρ l==k) with|some k=>r1 k|none=>r k)=r k
   cases hf:(zaa ns).find? (λl=>ρ l==k) with
   | none=>rfl
   | some l =>
    have h1:=List.find?_some hf
    have h2:=List.mem_of_find?_eq_some hf
    simp only [beq_iff_eq] at h1
    exact absurd hk (h1▸(hnew v ns hR l h2).2)
  have e3:∀ k,zc7 (dom (rst hp rs)) ns k->r2 (ρ k)=r1 k:=λk hk=>by
   by_cases hm:k∈zaa ns
   ·exact e1 k hm
   ·have hd:=hk.resolve_right hm
    rw [e2 _ (h.dom1 hd),hr1 k hd]
  refine ⟨ren ρ v,rnL ρ ns,r2,⟨v,ns,hR,rfl,rfl⟩,e2,?_,ht.os,ht.tape,ht.output,ht.size,λk hk _=>ht.same k hk (by simp),λp hp1=>?_,λp hp1=>?_,λp hp1 q hq1 hpq=>?_⟩
  ·rw [he,zcn,zcy e3 f1]
  ·simp only [List.nil_append,rnL,List.mem_map] at hp1
   obtain ⟨p,hp1,rfl⟩:=hp1
   have hh:=ht.has p (by simpa using hp1)
   refine ⟨?_,Blk.ids_rn (hext ns) hh.2⟩
   rw [Blk.rn_obj,Blk.obj_congr e3 hh.2]
   show W'.heap[r2 (ρ p.1)]? = _
   rw [e1 _ (zag.2 ⟨p,hp1,rfl⟩)]
   exact hh.1
  ·simp only [rnL,List.mem_map] at hp1
   obtain ⟨p,hp1,rfl⟩:=hp1
   show W.heap.size<=r2 (ρ p.1)
   rw [e1 _ (zag.2 ⟨p,hp1,rfl⟩)]
   exact ht.fresh p hp1
  ·simp only [rnL,List.mem_map] at hp1 hq1
   obtain ⟨p,hp1,rfl⟩:=hp1
   obtain ⟨q,hq1,rfl⟩:=hq1
   have k1:=zag.2 ⟨p,hp1,rfl⟩
   have k2:=zag.2 ⟨q,hq1,rfl⟩
   have hpq':r2 (ρ p.1)=r2 (ρ q.1):=hpq
   rw [e1 _ k1,e1 _ k2] at hpq'
   have:=ht.apart p hp1 q hq1 hpq'
   show ρ p.1=ρ q.1
   rw [this]
theorem jar {f:FuncId} {fn:Func} {c:Code} {args:Array Value} {hp:Hp} {rs:List Nat} {R:Value->List (Nat×Blk)->Prop} {B:Nat} (hGF:zbo G) (hG:∀ k,k<100->hp k=G k) (hf:P.funcs[f]? = some fn) (hb:fn.body=some c) (hcall:∀ a w,(callFunc f a).run P w=.ok (.enter f a) w)
  (ha:∀ x∈args,zap (dom (rst hp rs)) x) (hcl:∀ k b,rst hp rs k=some b->b.ids (dom (rst hp rs)))
  (hfit:∀ v ns,R v ns->zap (zc7 (dom (rst hp rs)) ns) v/\(∀ k∈zaa ns,100<=k/\¬dom (rst hp rs) k)/\(∀ k b c,(k,b)∈ns->(k,c)∈ns->b=c)/\∀ p∈ns,p.2.ids (zc7 (dom (rst hp rs)) ns))
  (hn:args.size<=fn.ntmps) (hB:100<=B) (hfree:∀ x,B<=x->rst hp rs x=none)
  (h:∀ C:Ctx,C.G=G->C.hp0=rst hp rs->C.Y=none->GW P C fn.ntmps [] none c ⟨λt=>args.getD t undef,rst hp rs,B,0⟩ λe s=>(e=.normal\/e=.ret)/\(∀ k,dom (rst hp rs) k->s.hp k=rst hp rs k) /\
   ∃ v ns ρ,R v ns/\(∀ k,dom (rst hp rs) k->ρ k=k)/\(∀ p∈ns,¬dom (rst hp rs) (ρ p.1)/\100<=ρ p.1)/\(∀ p∈ns,∀ q∈ns,ρ p.1=ρ q.1->p.1=q.1)/\zn1 P fn.results.toList s.ts s.hp=some (ren ρ v)/\∀ p∈ns,s.hp (ρ p.1)=some (p.2.rn ρ)):FunS P G f args hp rs R:=by
 refine ⟨hcall,ha,hcl,hfit,λr W hgok hsat hinjr hlow=>callsIn_of_wp_marks hf hb ⟨fn,hf⟩ ?_⟩
 have ltW:∀ k,dom (rst hp rs) k->r k<W.heap.size:=λk hk=>by
  unfold dom at hk
  cases hb:rst hp rs k with
  | none=>exact absurd hb hk
  | some b=>exact (Array.getElem?_eq_some_iff.1 (hsat k b hb).1).1
 let im:Nat->Prop:=λj=>∃ i,dom (rst hp rs) i/\r i=j
 let C:Ctx:=⟨zdt W im,rst hp rs,r,G,none⟩
 have hi:GI P C fn.ntmps [] r ⟨λt=>args.getD t undef,rst hp rs,B,0⟩ { tmps:=args.map (ren r)++Array.replicate (fn.ntmps - (args.map (ren r)).size) undef,defers:=[] } W:=by
  refine ⟨⟨by simp;omega,λt=>?_,hsat,hinjr,⟨λk=>k<W.heap.size/\¬im k,[],⟨λ_=>Iff.rfl,rfl,rfl,rfl,Nat.le_refl _,λ_ _=>rfl⟩,λk hk=>hk.1,λi hi _ hS=>hS.2 ⟨i,hi,rfl⟩,⟨rfl,List.nodup_nil⟩,by simp⟩,
   λi hi=>⟨hi,rfl⟩,λk hk=>?_,hlow⟩,hfree,hB,hGF,λy hy=>by cases hy⟩
  ·right
   dsimp only
   by_cases ht:t<args.size
   ·have hm:args[t]∈args:=Array.getElem_mem ht
    have e:args.getD t undef=args[t]:=by simp [Array.getD,ht]
    rw [e]
    refine ⟨?_,ha _ hm⟩
    have:t<(args.map (ren r)).size:=by simpa using ht
    simp [Array.getElem?_append_left this,ht]
   ·have e:args.getD t undef=undef:=by simp [Array.getElem?_eq_none (Nat.le_of_not_lt ht)]
    rw [e]
    refine ⟨?_,zcv _⟩
    rw [zci]
    simp only [Array.getD_eq_getD_getElem?]
    rw [Array.getElem?_append_right (by simpa using Nat.le_of_not_lt ht),Array.getElem?_replicate]
    split<;>rfl
  ·show rst hp rs k=G k
   simp [rst,hk,hG k hk]
 refine wpIn_mono (h C rfl rfl rfl r _ W hi) ?_
 rintro e a' W' ⟨s',r',⟨he,hhp,v,ns,ρ,hRv,hρ0,hρ,hinj,hr,hns⟩,hi'⟩
 obtain ⟨S,ms,⟨hS,os,tape,output,size,hsame⟩,hS1,hS2,⟨hdef,hnd⟩,hms⟩:=hi'.ri.ext
 have hkeep:∀ i,dom (rst hp rs) i->dom s'.hp i/\r' i=r i:=hi'.ri.keep
 obtain ⟨_,hk100,_,hbl⟩:=hfit v ns hRv
 have mine:∀ W'':World,(∀ k,k∉ms->W''.heap[k]? = W'.heap[k]?)->∀ i b,s'.hp i=some b->W''.heap[r' i]? = some (b.obj r'):=λW'' hW i b hb=>by
  rw [hW _ (λhm=>hi'.ri.ne_mark (by unfold dom;rw [hb];simp) (hms _ hm).1 rfl)]
  exact (hi'.ri.sat i b hb).1
 have hend:∀ W'':World,W''.heap.size=W'.heap.size->W''.os=W'.os->W''.tape=W'.tape->W''.output=W'.output->(∀ k,k∉ms->W''.heap[k]? = W'.heap[k]?) ->
   LeavesIn (Fw P none) 0 P fn a'.tmps (λe W'=>∃ v ns r',R v ns/\(∀ k,dom (rst hp rs) k->r' k=r k)/\e=.returned (ren r' v)/\Turn r' (zc7 (dom (rst hp rs)) ns) W W' [] ns) [] .returning W'':=λW'' e1 e2 e3 e4 e5=>by
  have hsat':Sat r' (dom s'.hp) s'.hp W'':=λk b hk=>⟨mine W'' e5 k b hk,(hi'.ri.sat k b hk).2⟩
  have hrun:=zdn (fn:=fn) hi'.ri.rel hsat' hr
  rw [zcn] at hrun
  refine ⟨_,hrun,v,ns,λk=>r' (ρ k),hRv,λk hk=>by show r' (ρ k)=r k;rw [hρ0 k hk];exact (hkeep k hk).2,rfl,?_⟩
  refine ⟨e2.trans os,e3.trans tape,e4.trans output,by rw [e1];exact size,λk hk _=>?_,λp hp1=>?_,λp hp1=>?_,λp hp1 q hq1 hpq=>?_⟩
  ·by_cases hk':im k
   ·obtain ⟨i,hi1,rfl⟩:=hk'
    cases hb:rst hp rs i with
    | none=>exact absurd hb hi1
    | some b =>
     have e:s'.hp i=some b:=(hhp i hi1).trans hb
     have:=mine W'' e5 i b e
     rw [(hkeep i hi1).2,Blk.obj_congr (λk hk=>(hkeep k hk).2) (hcl i b hb)] at this
     rw [this,(hsat i b hb).1]
   ·have hSk:S k:=(hS k).2 ⟨hk,hk'⟩
    rw [e5 k (λhm=>(hms k hm).2.1 hSk)]
    exact hsame k hSk
  ·have hp1:p∈ns:=by simpa using hp1
   refine ⟨?_,hbl p hp1⟩
   have:=mine W'' e5 _ _ (hns p hp1)
   rw [Blk.rn_obj] at this
   exact this
  ·have hd:dom s'.hp (ρ p.1):=by unfold dom;rw [hns p hp1];simp
   have h1:=hS2 _ hd (hρ p hp1).2
   rw [hS] at h1
   refine Classical.byContradiction λhlt=>h1 ⟨by omega,λ⟨i,hi1,e⟩=>?_⟩
   have:=hi'.ri.inj i (ρ p.1) (hkeep i hi1).1 hd ((hkeep i hi1).2.trans e)
   exact (hρ p hp1).1 (this▸hi1)
  ·have hd:∀ x∈ns,dom s'.hp (ρ x.1):=λx hx=>by unfold dom;rw [hns x hx];simp
   exact hinj p hp1 q hq1 (hi'.ri.inj _ _ (hd p hp1) (hd q hq1) hpq)
 rcases he with rfl|rfl
 ·show LeavesInM _ _ _ _ _ _ a'.defers _ _
  rw [hdef,List.append_nil]
  exact zc9 (by simp) ms W' hnd (λD hD=>(hms D hD).1) hend
 ·show LeavesInM _ _ _ _ _ _ a'.defers _ _
  rw [hdef,List.append_nil]
  exact zc9 (by simp) ms W' hnd (λD hD=>(hms D hD).1) hend
end
section
variable {P:Program} {C:Ctx} {n:Nat} {d:List Deferred} {ro:Option Nat} {s:GS} {K:Exit->GS->Prop}
theorem ziy {r:Nat->Nat} {ts:Nat->Value} {hp:Hp} {yc:Nat} {a:Act} {W:World} {mn:Nat} {o:Oper} {c:Call} {f:Operand} {g:FuncId} {cap:Array Value} {rs:List Nat} {R:Value->List (Nat×Blk)->Prop} {next:Act->World->Prop} {Q:Exit->Act->World->Prop}
  (hGF:zbo C.G) (h:RI C n d r ts hp yc a W) (hd:∀ dd,o.dst=some dd->dd<n)
  (ho:o.op=.call c) (hc:c.callee=.value f) (hf:okT ts f) (hgf:gev ts f=.func (.func g) #[] cap) (hcp:cap.all zbr=true) (ha:∀ x∈c.args.toList,okX ts hp x) (hr:FunS P C.G g (c.args.map (gev ts)++cap) hp rs R)
  (hfr:∀ v ns,R v ns->∀ k∈zaa ns,hp k=none)
  (hn:∀ v ns,R v ns->∀ r' a' W',RI C n d r' (zcx ts o.dst v) (zbi hp ns) yc a' W'->next a' W'):o.wpIn (Fw P ro) mn P a W next Q:=by
 have hR:=h.rel
 have hS:=h.sat
 have hlow:=h.low
 have hD:∀ k,dom (rst hp rs) k->dom hp k:=λk hk=>by
  unfold dom at hk |-
  cases hb:rst hp rs k with
  | none=>exact absurd hb hk
  | some b=>rw [zda hb];simp
 have hRo:zqi o r (dom hp) ts a:=λt _=>hR t
 have h1:=ev hRo (x:=f) (by simp [ho,hc,Op.operands,Call.operands]) (zne (hp:=hp) hf) hlow (λ_ _ h=>h)
 rw [hgf] at h1
 have h3:a.eval f=.func (.func g) #[] (cap.map (zan r)):=by rw [h1.1];simp [ren,zay,zak]
 have hargs:c.args.map a.eval=(c.args.map (gev ts)).map (ren r):=by
  rw [Array.map_map]
  exact Array.map_congr_left λx hx=>(ev hRo (x:=x) (by simp [ho,Op.operands,Call.operands,hx]) (ha x (by simpa using hx)) hlow (λ_ _ h=>h)).1
 have hrun:(execOp a.eval o).run P W=.ok (.enter g ((c.args.map (gev ts)).map (ren r)++cap.map (zan r))) W:=by
  simp [execOp,ho,resolve,hc,h3,Deferred.ofValue,invoke,hargs,hr.enter]
 have hS':Sat r (dom (rst hp rs)) (rst hp rs) W:=λk b hk=>⟨(hS k b (zda hk)).1,hr.closed k b hk⟩
 have hS2:Sat r (dom hp) (rst hp rs) W:=λk b hk=>hS k b (zda hk)
 have hcall:=hr.run r W (zx6 hGF (λk hk=>h.glob k hk) hS2 hlow hD) hS' (λk l hk hl=>h.inj k l (hD k hk) (hD l hl)) (λk hk hd=>hlow k hk (hD k hd))
 have hcap:∀ x∈cap,ren r x=zan r x:=λx hx=>zcf (Array.all_eq_true_iff_forall_mem.1 hcp x hx)
 have e2:(c.args.map (gev ts)).map (ren r)++cap.map (zan r)=(c.args.map (gev ts)++cap).map (ren r):=by
  rw [Array.map_append];congr 1;exact Array.map_congr_left λx hx=>(hcap x hx).symm
 refine zgw (R:=λu W'=>next (a.put o.dst u) W') (Rp:=λ_ _=>False) (by rw [ho];intro c;simp) ?_ (λu W' h=>h) (λpv W' h=>h.elim)
 unfold znz
 rw [hrun]
 dsimp only
 rw [e2]
 refine hcall.mono λe W'' he=>?_
 obtain ⟨v,ns,r1,hRv,hr1,rfl,ht⟩:=he
 obtain ⟨f1,f2,f3,f4⟩:=hr.fits v ns hRv
 have hfree:=hfr v ns hRv
 let r2:Nat->Nat:=λk=>if k∈zaa ns then r1 k else r k
 have e0:∀ k,k∈zaa ns->r2 k=r1 k:=λk hk=>by simp [r2,hk]
 have e1:∀ k,zc7 (dom (rst hp rs)) ns k->r2 k=r1 k:=λk hk=>by
  by_cases hm:k∈zaa ns
  ·exact e0 k hm
  ·simp only [r2,if_neg hm];exact (hr1 k (hk.resolve_right hm)).symm
 have hmono:∀ k,zc7 (dom (rst hp rs)) ns k->zc7 (dom hp) ns k:=λk hk=>hk.imp (hD k) id
 have e3:∀ k,dom hp k->r2 k=r k:=λk hk=>by simp only [r2,if_neg (λh=>hk (hfree k h))]
 have hv:ren r1 v=ren r2 v:=(zcy e1 f1).symm
 show next (a.put o.dst (ren r1 v)) W''
 rw [hv]
 refine hn v ns hRv r2 _ _ ?_
 have:=h.after (dst:=o.dst) hd (e:=⟨v,[],[],ns,none,false⟩) e3 (zcp hmono f1) ⟨ht.os,ht.tape,ht.output,ht.size,λk hk _=>ht.same k hk (by simp),λp hp1=>?_,λp hp1=>by rw [e0 _ (zag.2 ⟨p,hp1,rfl⟩)];exact ht.fresh p hp1,
  λp hp1 q hq1 h=>ht.apart p hp1 q hq1 (by rw [<-e0 _ (zag.2 ⟨p,hp1,rfl⟩),<-e0 _ (zag.2 ⟨q,hq1,rfl⟩)];exact h)⟩ (by simp [zaa]) (λk hk=>⟨hfree k hk,(f2 k hk).1⟩)
 ·simpa using this
 ·have hp1:p∈ns:=by simpa using hp1
  have hh:=ht.has p (by simpa using hp1)
  rw [e0 _ (zag.2 ⟨p,hp1,rfl⟩),Blk.obj_congr e1 hh.2]
  exact ⟨hh.1,Blk.ids_mono hmono hh.2⟩
end
section
variable {P:Program} {C:Ctx} {n:Nat} {d:List Deferred} {ro:Option Nat} {s:GS} {K:Exit->GS->Prop}
def GL (P:Program) (C:Ctx) (n:Nat) (d:List Deferred) (ro:Option Nat) (ops:Array Oper) (base k:Nat) (l:List Oper) (ts:Nat->Value) (hp:Hp) (yc:Nat) (K:Exit->GS->Prop):Prop :=
 ∀ r a W,RI C n d r ts hp yc a W->(∀ x,base+8*k<=x->hp x=none)->100<=base->zbo C.G->(∀ y,C.Y=some y->zg9 P C y)->wpListIn (Fw P ro) 0 P ops (λe a' W'=>∃ s' r',K e s'/\GI P C n d r' s' a' W') l a W
theorem zc3 {id:Nat} {l:List Oper} (h:GL P C n d ro l.toArray s.B 0 l s.ts s.hp s.yc K):GW P C n d ro (.region id l.toArray false) s K:=λr a W hi =>
 wpIn_region_lit (h r a W hi.ri (by simpa using hi.free) hi.low hi.flat hi.rounds)
theorem zdc {ops:Array Oper} {base k:Nat} {ts:Nat->Value} {hp:Hp} {yc:Nat} (h:K .normal ⟨ts,hp,base+8*k,yc⟩):GL P C n d ro ops base k [] ts hp yc K:=λr a W hi hf hb hG hR =>
 wpListIn_nil ⟨⟨ts,hp,_,yc⟩,r,h,hi,hf,by show 100<=base+8*k;omega,hG,hR⟩
theorem z78 {l0 l:List Oper} {base k:Nat} {ts:Nat->Value} {hp:Hp} {yc:Nat} (j:Nat) (pn:List FuncId) (hl:l=l0.drop k) (hk:k<=l0.length) (hdst:(zg1 n (l.take j)&&zry P (l.take j))=true)
  (h:∀ q:(Nat->Value)->Hp->Tr->Nat->Prop,(∀ ts hp tr yc,GL P C n d ro l0.toArray base (k+(l.take j).length) (l.drop j) ts hp yc K->q ts hp tr yc) ->
   zhg P C.G ⟨C.Y,pn,false⟩ base ⟨q,λ_ _=>False⟩ ((l0.take k).map (·.dst)).reverse k (l.take j) ts hp [] yc true false):GL P C n d ro l0.toArray base k l ts hp yc K:=by
 intro r a W hi hf hb hG hR
 simp only [Bool.and_eq_true] at hdst
 have e:l=l.take j++l.drop j:=(List.take_append_drop j l).symm
 have ek:(l0.take k).length=k:=by simp;omega
 have hh:=h (λts hp _ yc=>GL P C n d ro l0.toArray base (k+(l.take j).length) (l.drop j) ts hp yc K) (λ_ _ _ _ a=>a)
 have hx:zi5 P C.G ⟨C.Y,pn,false⟩ l0.toArray base (λts hp _ yc=>GL P C n d ro l0.toArray base (k+(l.take j).length) (l.drop j) ts hp yc K) (λ_ _=>False) k (l.take j) ts hp [] yc true false:=by
  refine zc5 (Q:=⟨_,λ_ _=>False⟩) (l.take j) _ k _ _ _ _ _ _ (λi hi=>?_) (λi hi=>?_) hh
  ·rw [List.getElem?_reverse (by simp;omega)]
   simp only [List.length_map,ek,List.getElem?_map,List.getElem?_toArray]
   rw [show k - 1 - (k - 1 - i)=i by omega,List.getElem?_take,if_pos hi]
   cases l0[i]?<;>rfl
  ·have hi':i<j:=by simp at hi;omega
   rw [List.getElem?_take,if_pos hi',hl,List.getElem?_drop];simp
 rw [e]
 refine zfd (l.drop j) (ops:=l0.toArray) (base:=base) (pn:=pn) (Q:=λe a' W'=>∃ s' r',K e s'/\GI P C n d r' s' a' W') (Kn:=λts hp yc=>GL P C n d ro l0.toArray base (k+(l.take j).length) (l.drop j) ts hp yc K) (Kp:=λ_=>False) (hp0:=hp) (ts0:=ts) (l0:=l.take j) hG hR hb (l.take j) k ts hp [] yc true false r a W
  (λo ho=>⟨⟨ze6 hdst.1 ho,zge hdst.2 o ho⟩,ho⟩) (λ_ _=>rfl) hi hf (by simp) (λts' hp' yc' r' a' W' hk' hi' hf' _=>hk' r' a' W' hi' hf' hb hG hR) (λ_ _ _ _ _ _ _ h=>h.elim) hx
theorem jec {ops:Array Oper} {o:Oper} {post:List Oper} {base k:Nat} {ts:Nat->Value} {hp:Hp} {yc:Nat} (hg:o.guard=none) (hd:∀ dd,o.dst=some dd->dd<n)
  (h:z8m P o ts hp (base+8*k) λts' hp'=>GL P C n d ro ops base (k+1) post ts' hp' yc K):GL P C n d ro ops base k (o::post) ts hp yc K:=by
 intro r a W hi hf hb hG hR
 obtain ⟨tx,ty,t,e,i,z,k',j,off2,sl,cap,m,m',b,b2,nw,ho,ht,hii,hz,hx,hk1,hb',hbT,hbf,hy,hb2,hrd,hnl,hnw,hb2f,h1,hzf,hc,hsl,hs1,hs2,hroom,hgrow⟩:=h
 refine wpListIn_plain hg λK' hK'=>?_
 refine zkx hi hd ho ht hii hz hx hk1 hb' hbT hbf hy hb2 hrd hnl hnw hb2f h1 hzf hc hsl hs1 hs2 (nk:=base+8*k) ⟨hf _ (Nat.le_refl _),by omega⟩ (λhr r'' a'' W'' hi''=>hK' _ _ (hroom hr r'' a'' W'' hi'' (λx hx'=>?_) hb hG hR)) (λhr cap' hc' r'' a'' W'' hi''=>hK' _ _ (hgrow hr cap' hc' r'' a'' W'' hi'' (λx hx'=>?_) hb hG hR))
 ·rw [zab _ _ (λe=>?_)]
  ·exact hf x (by omega)
  ·subst e;rw [hf x (by omega)] at hb';cases hb'
 ·rw [zab _ _ (λe=>by omega)]
  exact hf x (by omega)
theorem z1u {ops:Array Oper} {o:Oper} {post:List Oper} {base k:Nat} {ts:Nat->Value} {hp hp':Hp} {yc:Nat} {c:Call} {f:Operand} {g:FuncId} {cap:Array Value} {rs:List Nat} {R:Value->List (Nat×Blk)->Prop} (hg:o.guard=none) (hd:∀ dd,o.dst=some dd->dd<n)
  (ho:o.op=.call c) (hc:c.callee=.value f) (hf:okT ts f) (hgf:gev ts f=.func (.func g) #[] cap) (hcp:cap.all zbr=true) (ha:∀ x∈c.args.toList,okX ts hp x) {args:Array Value} (hargs:c.args.map (gev ts)++cap=args) (hr:FunS P C.G g args hp' rs R)
  (h1:∀ q∈rs,hp' q=hp q) (h2:∀ q,q<100->hp' q=hp q) (hat:∀ v ns,R v ns->∀ q∈zaa ns,base+8*k<=q/\q<base+8*k+8)
  (h:∀ v ns,R v ns->GL P C n d ro ops base (k+1) post (zcx ts o.dst v) (zbi hp ns) yc K):GL P C n d ro ops base k (o::post) ts hp yc K:=by
 intro r a W hi hfr hb hG hR
 refine wpListIn_plain hg λK' hK'=>?_
 refine ziy hG hi hd ho hc hf hgf hcp ha (by rw [hargs];exact hr.under λq hq=>hq.elim (h2 q) (h1 q)) (λv ns hRv q hq=>hfr q (hat v ns hRv q hq).1) (λv ns hRv r' a' W' hi'=>hK' _ _ (h v ns hRv r' a' W' hi' (λx hx=>?_) hb hG hR))
 rw [za6 (λhm=>by have:=hat v ns hRv x hm;omega)]
 exact hfr x (by omega)
end
section
variable {P:Program} {C:Ctx} {n:Nat} {d:List Deferred} {ro:Option Nat} {s:GS} {K:Exit->GS->Prop}
theorem gwl {l0 l:List Oper} {base k:Nat} {ts:Nat->Value} {hp:Hp} {yc:Nat} (j:Nat)
  (h:∀ q:(Nat->Value)->Hp->Tr->Nat->Prop,(∀ ts hp tr yc,GL P C n d ro l0.toArray base (k+(l.take j).length) (l.drop j) ts hp yc K->q ts hp tr yc) ->
   zhg P C.G ⟨C.Y,[],false⟩ base ⟨q,λ_ _=>False⟩ ((l0.take k).map (·.dst)).reverse k (l.take j) ts hp [] yc true false) (hl:l=l0.drop k:=by rfl) (hk:k<=l0.length:=by simp) (hdst:(zg1 n (l.take j)&&zry P (l.take j))=true:=by kernel_rfl):GL P C n d ro l0.toArray base k l ts hp yc K:=z78 j [] hl hk hdst h
end
section
variable {P:Program}
theorem z0z {o:Oper} {a:Act} {W:World} {R Rp:Value->World->Prop} {x y:Operand} {t e:TypeId} {i:TypeInfo} {z:Value} {base:Option Addr} {g2 off2 m m':Nat} {nw:List Value}
  (ho:o.op=.call { callee:=.builtin .append,args:=#[x,y],argTypes:=#[t,t] }) (ht:P.underlying t=some (.slice e)) (hi:P.info? e=some i) (hz:i.zero=some z)
  (hx:a.eval x=.slice base 0 0) (hy:a.eval y=.slice (some ⟨g2,off2,none⟩) m m') (hl:nw.length=m*i.size) (hn:∀ j u,nw[j]? = some u->W.cell? ((⟨g2,off2,none⟩:Addr).add j)=some u)
  (hm:0<m) (hb1:m<=maxLen) (hb2:m*i.bytes<=140737488355328)
  (grow:∀ cap',m<=cap'->R (.slice (some ⟨W.heap.size,0,none⟩) m cap') (W.drew.alloc (.cells (nw.toArray++Builtin.zeroCells z.cells (cap' - m)) e))):znz P o a W R Rp:=by
 unfold znz
 cases base with
 | none =>
  have h:=run_append_nil (P:=P) W t o.type e i z ht hi hz ⟨g2,off2,none⟩ m m' nw hl hn hm (by simp only [maxLen] at hb1;omega) (by omega)
  simp only [execOp,ho,resolve,Sem.run_bind,Sem.run_pure,Result.andThen_ok,invoke,builtin,List.map_toArray,List.map_cons,List.map_nil,hx,hy,h]
  exact grow _ (grownCap_ge _ _ _ _)
 | some b =>
  have h:=run_append_grow (P:=P) W t o.type e i z ht hi hz b 0 0 [] (by simp) (by simp) ⟨g2,off2,none⟩ m m' nw hl hn (by omega) (by simp only [maxLen] at hb1;omega) (by simpa using growslice_fits (need:=0+m) (old:=0) (by omega) (by simpa using hb2))
  simp only [Nat.zero_add] at h
  simp only [execOp,ho,resolve,Sem.run_bind,Sem.run_pure,Result.andThen_ok,invoke,builtin,List.map_toArray,List.map_cons,List.map_nil,hx,hy,h]
  have:=grow _ (grownCap_ge W m 0 e)
  simpa using this
end
section
variable {P:Program} {C:Ctx} {n:Nat} {d:List Deferred} {ro:Option Nat} {s:GS} {K:Exit->GS->Prop}
theorem z77 {ops:Array Oper} {o:Oper} {post:List Oper} {base k:Nat} {ts:Nat->Value} {hp:Hp} {yc:Nat} {tx ty:Tmp} {t e:TypeId} {sz by':Nat} {z:Value} {p:Option Addr} {j off2 m m':Nat} {b2:Blk} {nw:List Value} (hg:o.guard=none) (hd:∀ dd,o.dst=some dd->dd<n)
  (ho:o.op=.call { callee:=.builtin .append,args:=#[.tmp tx,.tmp ty],argTypes:=#[t,t] }) (ht:P.underlying t=some (.slice e)) (hs:zaz P e=some sz) (hz:zbm P e=some z) (hby:zi0 P e=some by')
  (hx:ts tx=.slice p 0 0) (hy:ts ty=.slice (some ⟨j,off2,none⟩) m m') (hb2:hp j=some b2) (hnw:∀ q u,nw[q]? = some u->b2.c[off2+q]? = some u) (hb2f:∀ x∈nw,zbf x=true) (hzf:∀ q,∀ x∈Builtin.zeroCells z.cells q,zbf x=true)
  (hm0:0<m) (hm:m*sz=nw.length) (hs1:m<=maxLen) (hs2:m*by'<=140737488355328)
  (grow:∀ cap',m<=cap'->GL P C n d ro ops base (k+1) post (zcx ts o.dst (.slice (some ⟨base+8*k,0,none⟩) m cap')) (upd hp (base+8*k) (some ⟨(nw++(Builtin.zeroCells z.cells (cap' - m)).toList).toArray,.ty e⟩)) yc K) (hrd:b2.T.rd=true:=by first|rfl|assumption):GL P C n d ro ops base k (o::post) ts hp yc K:=by
 intro r a W hi hf hb hG hR
 unfold zaz at hs;unfold zbm at hz;unfold zi0 at hby
 cases hii:P.info? e with
 | none=>rw [hii] at hs;cases hs
 | some i =>
  rw [hii] at hs hz hby
  simp only [Option.map_some,Option.some.injEq,Option.bind_some] at hs hz hby
  subst hs;subst hby
  refine wpListIn_plain hg λK' hK'=>?_
  have ex:∃ p',a.eval (.tmp tx)=.slice p' 0 0:=by
   have:=(hi.rel tx).resolve_left (by rw [hx];simp [zcm])
   rw [hx] at this
   cases p with
   | none=>exact ⟨none,this.1⟩
   | some q=>exact ⟨_,this.1⟩
  obtain ⟨p',ex⟩:=ex
  have ey:a.eval (.tmp ty)=.slice (some ⟨r j,off2,none⟩) m m':=by
   have:=(hi.rel ty).resolve_left (by rw [hy];simp [zcm])
   rw [hy] at this
   exact this.1
  have hn:∀ q u,nw[q]? = some u->W.cell? ((⟨r j,off2,none⟩:Addr).add q)=some u:=λq u hq=>by
   rw [Addr.add_lit]
   exact zsl (hi.sat j b2 hb2).1 (hnw q u hq) (hb2f u (List.mem_of_getElem? hq)) hrd
  have hnk:hp (base+8*k)=none:=hf _ (Nat.le_refl _)
  refine zgw (by rw [ho];intro c;simp) (z0z (R:=λu W'=>wpListIn (Fw P ro) 0 P ops _ post (a.put o.dst u) W') (Rp:=λ_ _=>False) ho ht hii hz ex ey hm.symm hn hm0 hs1 hs2 (λcap' hcap=>?_)) (λu W' h=>hK' _ _ h) (λpv W' h=>h.elim)
  have hff:∀ x∈(nw++(Builtin.zeroCells z.cells (cap' - m)).toList).toArray,zbf x=true:=λx hx=>by
   simp only [List.mem_toArray,List.mem_append] at hx
   rcases hx with hx|hx
   ·exact hb2f x hx
   ·exact hzf _ x (by simpa using hx)
  have hnd:¬dom hp (base+8*k):=by unfold dom;simp [hnk]
  have hr':∀ q,dom hp q->upd r (base+8*k) W.heap.size q=r q:=λq hq=>zab _ _ (λe=>hnd (e▸hq))
  have hv:(Value.slice (some ⟨W.heap.size,0,none⟩) m cap')=ren (upd r (base+8*k) W.heap.size) (.slice (some ⟨base+8*k,0,none⟩) m cap'):=by simp [ren,zay,zak,zan,za9]
  have ec:nw.toArray++Builtin.zeroCells z.cells (cap' - m)=(nw++(Builtin.zeroCells z.cells (cap' - m)).toList).toArray:=by
   rw [<-List.append_toArray,Array.toArray_toList]
  rw [hv,ec]
  refine grow cap' hcap (upd r (base+8*k) W.heap.size) _ _ (hi.drew.after (e:=⟨.slice (some ⟨base+8*k,0,none⟩) m cap',[],[],[(base+8*k,⟨_,.ty e⟩)],none,false⟩) hd hr' (by simp [zap,zax,zah,zaj,zc7,zaa]) ⟨rfl,rfl,rfl,(by show W.heap.size<=(W.heap.push _).size;simp),λq hq _=>?_,λp hp1=>?_,λp hp1=>?_,by simp⟩ (by simp [zaa]) (by simp [zaa,hnk];omega)) (λx hx'=>?_) hb hG hR
  ·exact Below.heap_alloc _ _ _ hq
  ·simp only [List.nil_append,List.mem_singleton] at hp1
   subst hp1
   refine ⟨?_,Blk.flat_ids hff⟩
   rw [Blk.obj_flat hff]
   show (W.drew.alloc _).heap[upd r (base+8*k) W.heap.size (base+8*k)]? = _
   rw [za9]
   exact heap_alloc_new W.drew _
  ·simp only [List.mem_singleton] at hp1
   subst hp1
   show W.heap.size<=upd r (base+8*k) W.heap.size (base+8*k)
   rw [za9]
   exact Nat.le_refl _
  ·rw [zab _ _ (λe=>by omega)]
   exact hf x (by omega)
end
end Go.Gy
namespace Go.Gy
open Go Go.RowKit
section
variable {P:Program}
def rdI (b:Blk) (off N:Nat) (f:Nat->Int):Prop:=∀ j,j<N->b.c[off+j]? = some (.int .i64 (f j))
theorem rdI.le {b:Blk} {off N M:Nat} {f:Nat->Int} (h:rdI b off N f) (hm:M<=N):rdI b off M f:=λj hj=>h j (by omega)
theorem zju {T:TypeId} {b:Blk} {off:Nat} {v:Value} (h:zb5 P T b.c off=some v) (hf:za0 v=true) (hrd:b.T.rd=true:=by first|rfl|assumption):zc6 P T b off=some v:=by
 obtain ⟨c,t⟩:=b
 cases t with
 | ty t=>exact h
 | raw t fr=>simp only [zc6];simp only at h;rw [h];simp [hf]
 | mp=>cases hrd
theorem z28 (m:Nat) (k:IntKind) (f:Nat->Int):za0 (.agg (fa m k f))=true:=by
 simp [za0,zg2]
theorem zs4 {T:TypeId} {m:Nat} (h1:zfm P T=some true) (h2:zaz P T=some m) (hm:0<m) {b:Blk} {off N j:Nat} {f:Nat->Int} (h:rdI b off N f) (hj:j+m<=N) (hrd:b.T.rd=true:=by first|rfl|assumption):zc6 P T b (off+j)=some (.agg (fa m .i64 λq=>f (j+q))):=by
 have hsz:off+j+m<=b.c.size:=by
  have:=h (j+m - 1) (by omega)
  have:=(Array.getElem?_eq_some_iff.1 this).1
  omega
 have he:b.c.extract (off+j) (off+j+m)=fa m .i64 λq=>f (j+q):=by
  apply Array.ext_getElem?
  intro q
  rw [Array.getElem?_extract]
  by_cases hq:q<m
  ·rw [if_pos (by omega),zdi _ _ _ _ hq,Nat.add_assoc,h (j+q) (by omega)]
  ·rw [if_neg (by omega)]
   simp [fa];omega
 refine zju ?_ (z28 _ _ _)
 simp only [zb5,h1,h2,if_pos hsz,he]
theorem zkl {T:TypeId} (h1:zfm P T=some false) {b:Blk} {off N j:Nat} {f:Nat->Int} (h:rdI b off N f) (hj:j<N) (hrd:b.T.rd=true:=by first|rfl|assumption):zc6 P T b (off+j)=some (.int .i64 (f j)):=by
 refine zju ?_ (by simp [za0,zg2,zbf,zhd])
 simp only [zb5,h1,h j hj]
 rfl
theorem jrd (k:IntKind) (f:Nat->Int):fa 6 k f=#[.int k (f 0),.int k (f 1),.int k (f 2),.int k (f 3),.int k (f 4),.int k (f 5)]:=by
 apply Array.ext'
 simp [fa,Array.toList_ofFn,List.ofFn_succ]
theorem jrc (k:IntKind) (f:Nat->Int):fa 3 k f=#[.int k (f 0),.int k (f 1),.int k (f 2)]:=by
 apply Array.ext'
 simp [fa,Array.toList_ofFn,List.ofFn_succ]
def jnu (f:Nat->Int) (a m:Nat) (g:Nat->Int):Nat->Int:=λj=>if a<=j/\j<a+m then g (j - a) else f j
def jcm (f:Nat->Int) (a m:Nat) (g:Nat->Int):Nat->Int:=λj=>if j<a then f j else if j<a+m then g (j - a) else 0
theorem zm9 {l:List Value} {N:Nat} {k:IntKind} {g:Nat->Int} (hl:l.length=N) (h:∀ j,j<N->l[j]? = some (.int k (g j))):l.toArray=fa N k g:=by
 apply Array.ext_getElem?
 intro j
 by_cases hj:j<N
 ·rw [zdi _ _ _ _ hj,List.getElem?_toArray,h j hj]
 ·have h1:(fa N k g)[j]? = none:=by simp [fa];omega
  rw [h1,List.getElem?_toArray,List.getElem?_eq_none (by omega)]
theorem zcg {N:Nat} {k:IntKind} {f:Nat->Int} {j:Nat} (h:j<N):(fa N k f).toList[j]? = some (.int k (f j)):=by
 rw [Array.getElem?_toList];exact zdi _ _ _ _ h
theorem zdj (N:Nat) (k:IntKind) (f:Nat->Int):(fa N k f).toList.length=N:=by simp
theorem z2a {N a m:Nat} {k:IntKind} {f g:Nat->Int} (h:a+m<=N):((fa N k f).toList.take a++(fa m k g).toList++(fa N k f).toList.drop (a+(fa m k g).toList.length)).toArray=fa N k (jnu f a m g):=by
 refine zm9 (by simp;omega) λj hj=>?_
 rw [zdj]
 have hta:((fa N k f).toList.take a).length=a:=by simp;omega
 unfold jnu
 by_cases h1:j<a
 ·rw [List.append_assoc,List.getElem?_append_left (by omega),List.getElem?_take,if_pos h1,zcg (by omega),if_neg (by omega)]
 ·rw [List.append_assoc,List.getElem?_append_right (by omega),hta]
  by_cases h2:j<a+m
  ·rw [List.getElem?_append_left (by simp;omega),zcg (by omega),if_pos (by omega)]
  ·rw [List.getElem?_append_right (by simp;omega),zdj,List.getElem?_drop,if_neg (by omega),show a+m+(j - a - m)=j by omega,zcg hj]
theorem zt6 {z:Array Value} {k:IntKind} (hz:∀ x∈z,x=.int k 0) (q:Nat):(Builtin.zeroCells z q).toList=(fa (q*z.size) k λ_=>0).toList:=by
 have e:(Builtin.zeroCells z q).toList.toArray=fa (q*z.size) k λ_=>0:=zm9 (by simp [zsa]) λj hj=>by
  have hj':j<(Builtin.zeroCells z q).size:=by rw [zsa];exact hj
  rw [Array.getElem?_toList,Array.getElem?_eq_getElem hj']
  exact congrArg some (hz _ (zt5 (Array.getElem_mem hj')))
 rw [<-e]
theorem z19 {N a m q:Nat} {k:IntKind} {f g:Nat->Int} (h:a<=N):((fa N k f).toList.take a++(fa m k g).toList++(fa q k λ_=>0).toList).toArray=fa (a+m+q) k (jcm f a m g):=by
 refine zm9 (by simp;omega) λj hj=>?_
 have hta:((fa N k f).toList.take a).length=a:=by simp;omega
 unfold jcm
 by_cases h1:j<a
 ·rw [List.append_assoc,List.getElem?_append_left (by omega),List.getElem?_take,if_pos h1,zcg (by omega),if_pos h1]
 ·rw [List.append_assoc,List.getElem?_append_right (by omega),hta,if_neg h1]
  by_cases h2:j<a+m
  ·rw [List.getElem?_append_left (by simp;omega),zcg (by omega),if_pos h2]
  ·rw [List.getElem?_append_right (by simp;omega),zdj,zcg (by omega),if_neg h2]
theorem z8n {m q:Nat} {k:IntKind} {g:Nat->Int}:((fa m k g).toList++(fa q k λ_=>0).toList).toArray=fa (m+q) k (jcm g m 0 g):=by
 refine zm9 (by simp) λj hj=>?_
 unfold jcm
 by_cases h1:j<m
 ·rw [List.getElem?_append_left (by simp;omega),zcg h1,if_pos h1]
 ·rw [List.getElem?_append_right (by simp;omega),zdj,zcg (by omega),if_neg h1,if_neg (by omega)]
theorem zfy {N:Nat} {k:IntKind} {f:Nat->Int}:∀ x∈(fa N k f).toList,zbf x=true:=λx hx=>by
 obtain ⟨m,rfl⟩:=zkc (Array.mem_toList_iff.1 hx)
 rfl
theorem zqx {N:Nat} {k:IntKind} {f:Nat->Int}:∀ x∈(fa N k f).toList,x.oneCell'=true:=λx hx=>by
 obtain ⟨m,rfl⟩:=zkc (Array.mem_toList_iff.1 hx)
 rfl
end
end Go.Gy
namespace Go.Gy
open Go Go.RowKit
section
variable {P:Program} {G:Hp}
variable {C:Ctx} {n:Nat} {d:List Deferred} {s:GS} {K:Exit->GS->Prop}
theorem WeakR.subd {ρ:Nat->Nat} {s':GS} (hw:WeakR C ρ s s') (hg:∀ k,k<100->s.hp k=C.G k) (k:Nat) (hk:dom s'.hp k):dom s.hp (ρ k):=by
 unfold dom at hk
 cases hb:s'.hp k with
 | none=>exact absurd hb hk
 | some b =>
  by_cases h1:100<=k
  ·unfold dom;rw [(hw.hp k b hb h1).1];simp
  ·rw [hw.id k (by omega)]
   unfold dom;rw [hg k (by omega),<-hw.glob k (by omega),hb];simp
theorem Own0.rename {So:Nat->Prop} {ms:List Nat} {yc B2 B yc':Nat} {a:Act} {r ρ:Nat->Nat} {ts:Nat->Value} {hp hq:Hp} {V:World} (h:Own0 C d So ms yc a r ts hp V) (hw:WeakR C ρ ⟨ts,hp,B2,yc'⟩ ⟨ts,hq,B,yc'⟩):Own0 C d So ms yc a (λk=>r (ρ k)) ts hq V:=by
 have subd:=hw.subd (λk hk=>h.glob k hk)
 have sub:∀ k b,hq k=some b->hp (ρ k)=some (b.rn ρ):=λk b hb=>by
  by_cases hk:100<=k
  ·exact (hw.hp k b hb hk).1
  ·have hg:C.G k=some b:=(hw.glob k (by omega)).symm.trans hb
   rw [hw.id k (by omega),hw.rest k b (by omega) hg,h.glob k (by omega)]
   exact hg
 refine ⟨λt=>?_,λk b hb=>?_,λk l hk hl e=>hw.inj k l hk hl (h.inj _ _ (subd k hk) (subd l hl) e),h.X,λi hd h1=>?_,h.mks,λi hi=>?_,hw.glob,λk hk hd=>?_⟩
 ·rcases hw.ts t with e|⟨e,hne,hi⟩
  ·exact .inl e
  ·have e':=(h.ri t).resolve_left hne
   refine .inr ⟨?_,hi⟩
   have e2:ts t=ren ρ (ts t):=e
   rw [e'.1]
   conv=>lhs;rw [e2]
   rw [zcn]
 ·have hs:=(h.sat _ _ (sub k b hb)).1
  rw [Blk.rn_obj] at hs
  exact ⟨hs,hw.ids k b hb⟩
 ·refine h.sep _ (subd i hd) ?_
  have hd':dom hq i:=hd
  unfold dom at hd'
  cases hb:hq i with
  | none=>exact absurd hb hd'
  | some b=>exact (hw.hp i b hb h1).2
 ·have hk:=h.keep i hi
  by_cases h1:100<=i
  ·have hh:=hw.keep i h1 hi
   exact ⟨hh.1,by rw [hh.2];exact hk.2⟩
  ·refine ⟨?_,by rw [hw.id i (by omega)];exact hk.2⟩
   show dom hq i
   unfold dom
   have e1:hq i=C.G i:=hw.glob i (by omega)
   rw [e1,<-h.glob i (by omega)];exact hk.1
 ·have hd':=subd k hd
  rw [hw.id k hk] at hd' |-
  exact h.low k hk hd'
end
section
variable {P:Program} {G:Hp}
structure IterK (P:Program) (G:Hp) (f:FuncId) (caps:Array Value) (hp:Hp) (rs:List Nat) (xs:List (Array Value)):Prop where
 enter:∀ a w,(callFunc f a).run P w=.ok (.enter f a) w
 cids:∀ x∈caps,zbr x=true/\zap (dom (rst hp rs)) x
 closed:∀ k b,rst hp rs k=some b->b.ids (dom (rst hp rs))
 run:∀ (E:Ext) (l stop:Nat) r S W,GOK G W->Sat r (dom (rst hp rs)) (rst hp rs) W->Inj r (dom (rst hp rs))->(∀ k,k<100->dom (rst hp rs) k->r k=k)->zft P G E ⟨l,xs,stop,none,none⟩->E.X 0 S W->(∀ k,S k->k<W.heap.size) ->
  (∀ i,dom (rst hp rs) i->100<=i->¬S (r i)) ->
  zd8 P f (#[Value.func (.yield l) #[] #[]]++caps.map (ren r)) W λe W'=>(∃ v,e=.returned v)/\(∃ S',E.X (min (stop+1) xs.length) S' W')/\∀ k,dom (rst hp rs) k->W'.heap[r k]? = W.heap[r k]?
theorem IterK.g {f:FuncId} {caps:Array Value} {hp:Hp} {rs:List Nat} {xs:List (Array Value)} (h:IterK P G f caps hp rs xs):zhp P G f caps hp rs xs :=
 ⟨h.enter,h.cids,h.closed,λE l stop r S W h1 h2 h3 h4 _ h5 h6 h7 h8=>(h.run E l stop r S W h1 h2 h3 h4 h5 h6 h7 h8).mono λ_ _ hh=>⟨hh.1,hh.2.1⟩⟩
theorem z3s {f:FuncId} {fn:Func} {c:Code} {caps:Array Value} {hp:Hp} {rs:List Nat} {xs:List (Array Value)} {B:Nat} {v:Value} (hGF:zbo G) (hG:∀ k,k<100->hp k=G k) (hf:P.funcs[f]? = some fn) (hb:fn.body=some c) (hcall:∀ a w,(callFunc f a).run P w=.ok (.enter f a) w)
  (ha:∀ x∈caps,zbr x=true/\zap (dom (rst hp rs)) x) (hcl:∀ k b,rst hp rs k=some b->b.ids (dom (rst hp rs))) (hn:caps.size+1<=fn.ntmps) (hB:100<=B) (hfree:∀ x,B<=x->rst hp rs x=none)
  (h:∀ (C:Ctx) (l stop:Nat),C.G=G->C.hp0=rst hp rs->C.Y=some ⟨l,xs,stop,none,none⟩->GW P C fn.ntmps [] none c ⟨λt=>(#[Value.func (.yield l) #[] #[]]++caps).getD t undef,rst hp rs,B,0⟩
   (λe s=>(e=.normal\/e=.ret)/\zn1 P fn.results.toList s.ts s.hp=some v/\s.yc=min (stop+1) xs.length/\∀ k,dom (rst hp rs) k->s.hp k=rst hp rs k)):IterK P G f caps hp rs xs:=by
 refine ⟨hcall,ha,hcl,λE l stop r S W hgok hsat hinj hlow hR hX hS hdis=>callsIn_of_wp_marks hf hb ⟨fn,hf⟩ ?_⟩
 let C:Ctx:=⟨E,rst hp rs,r,G,some ⟨l,xs,stop,none,none⟩⟩
 have hi:GI P C fn.ntmps [] r ⟨λt=>(#[Value.func (.yield l) #[] #[]]++caps).getD t undef,rst hp rs,B,0⟩
   { tmps:=(#[Value.func (.yield l) #[] #[]]++caps.map (ren r))++Array.replicate (fn.ntmps - (#[Value.func (.yield l) #[] #[]]++caps.map (ren r)).size) undef,defers:=[] } W:=by
  have hsz:(#[Value.func (.yield l) #[] #[]]++caps.map (ren r)).size=(#[Value.func (.yield l) #[] #[]]++caps).size:=by simp
  have hmap:#[Value.func (.yield l) #[] #[]]++caps.map (ren r)=(#[Value.func (.yield l) #[] #[]]++caps).map (ren r):=by simp [ren,zay,zak]
  refine ⟨⟨?_,λt=>?_,hsat,hinj,⟨S,[],hX,hS,λi hi h1=>hdis i hi h1,⟨rfl,List.nodup_nil⟩,by simp⟩,λi hi=>⟨hi,rfl⟩,λk hk=>?_,hlow⟩,hfree,hB,hGF,λy hy=>by cases hy;exact ⟨hR,trivial⟩⟩
  ·simp only [Array.size_append,Array.size_replicate,hsz]
   simp
   omega
  ·right
   dsimp only
   rw [hmap]
   generalize hA:#[Value.func (.yield l) #[] #[]]++caps=A
   have hAi:∀ x∈A,zap (dom (rst hp rs)) x:=λx hx=>by
    rw [<-hA] at hx
    rcases Array.mem_append.1 hx with hx|hx
    ·simp at hx;subst hx;simp [zap,zax,zah]
    ·exact (ha x hx).2
   by_cases ht:t<A.size
   ·have hm:A[t]∈A:=Array.getElem_mem ht
    have e:A.getD t undef=A[t]:=by simp [Array.getD,ht]
    rw [e]
    refine ⟨?_,hAi _ hm⟩
    have:t<(A.map (ren r)).size:=by simpa using ht
    simp [Array.getElem?_append_left this,ht]
   ·have e:A.getD t undef=undef:=by simp [Array.getElem?_eq_none (Nat.le_of_not_lt ht)]
    rw [e]
    refine ⟨?_,zcv _⟩
    rw [zci]
    simp only [Array.getD_eq_getD_getElem?]
    rw [Array.getElem?_append_right (by simpa using Nat.le_of_not_lt ht),Array.getElem?_replicate]
    split<;>rfl
  ·show rst hp rs k=G k
   simp [rst,hk,hG k hk]
 refine wpIn_mono (h C l stop rfl rfl rfl r _ W hi) ?_
 rintro e a' W' ⟨s',r',hres,hi'⟩
 obtain ⟨S',ms,hX',hS1,hS2,⟨hdef,hnd⟩,hms⟩:=hi'.ri.ext
 obtain ⟨he,hr,hy,hkp⟩:=hres
 have hend:∀ W'':World,W''.heap.size=W'.heap.size->W''.os=W'.os->W''.tape=W'.tape->W''.output=W'.output->(∀ k,k∉ms->W''.heap[k]? = W'.heap[k]?) ->
   LeavesIn (Fw P none) 0 P fn a'.tmps (λe W'=>(∃ v,e=.returned v)/\(∃ S',E.X (min (stop+1) xs.length) S' W')/\∀ k,dom (rst hp rs) k->W'.heap[r k]? = W.heap[r k]?) [] .returning W'':=λW'' e1 e2 e3 e4 e5=>by
  have hsat':Sat r' (dom s'.hp) s'.hp W'':=λk b hk=>⟨by
   rw [e5 _ (λhm=>hi'.ri.ne_mark (by unfold dom;rw [hk];simp) (hms _ hm).1 rfl)]
   exact (hi'.ri.sat k b hk).1,(hi'.ri.sat k b hk).2⟩
  refine ⟨_,zdn (fn:=fn) hi'.ri.rel hsat' hr,⟨_,rfl⟩,⟨S',?_⟩,λk hk=>?_⟩
  rotate_left
  ·have hkk:dom s'.hp k/\r' k=r k:=hi'.ri.keep k hk
   unfold dom at hk
   cases hb:rst hp rs k with
   | none=>exact absurd hb hk
   | some b =>
    have e6:s'.hp k=some b:=(hkp k (by unfold dom;rw [hb];simp)).trans hb
    have e7:=(hsat' k b e6).1
    rw [hkk.2,Blk.obj_congr (λq hq=>(hi'.ri.keep q hq).2) (hcl k b hb)] at e7
    rw [e7,(hsat k b hb).1]
  rw [<-hy]
  exact E.ok _ _ _ _ hX' (λk hk=>e5 k λhm=>(hms k hm).2.1 hk) e2 e3 e4 (by rw [e1];exact Nat.le_refl _)
 rcases he with rfl|rfl
 ·show LeavesInM _ _ _ _ _ _ a'.defers _ _
  rw [hdef,List.append_nil]
  exact zc9 (by simp) ms W' hnd (λD hD=>(hms D hD).1) hend
 ·show LeavesInM _ _ _ _ _ _ a'.defers _ _
  rw [hdef,List.append_nil]
  exact zc9 (by simp) ms W' hnd (λD hD=>(hms D hD).1) hend
end
section
variable {P:Program} {G:Hp}
variable {C:Ctx} {n:Nat} {d:List Deferred} {s:GS} {K:Exit->GS->Prop}
def zfs (C:Ctx) (l:Nat):Prop:=∀ c S W,C.E.X c S W->S l/\∃ r0,W.heap[l]? = some (.loop r0)
theorem zz0 {t:Tmp} {ps:Array Tmp} {assign body:Code} {f:FuncId} {caps:Array Value} {rs:List Nat} {xs:List (Array Value)} (hg:s.ts t=.func (.func f) #[] caps) (hit:IterK P C.G f caps s.hp rs xs)
  (hxs:∀ x∈xs,x.size=ps.size/\∀ v∈x,za0 v=true) (hps:∀ p∈ps,p<n) (tsE:Nat->Value) (I:Nat->Hp->Prop) {hpS:Hp} (B:Nat) (N:Nat) (hN:N<=xs.length)
  (hw:Weak C s ⟨tsE,hpS,B,s.yc⟩) (h0:I 0 hpS) (hdis:∀ k∈rs,hpS k=none/\dom s.hp k)
  (rounds:∀ i x hq,i<N->xs[i]? = some x->I i hq->∀ (C1:Ctx) (l:Nat),C1.G=C.G->C1.hp0=hq->C1.Y=none->GW P C1 n [] (some l) assign ⟨zav ps.toList x.toList tsE,hq,B,0⟩
   (zbx (λs1=>∀ C2:Ctx,C2.G=C.G->C2.hp0=hq->C2.Y=none->zfs C2 l->GW P C2 n [] (some l) body s1 (zbx (λs2=>∃ ρ hq',WeakR C ρ ⟨tsE,s2.hp,s2.B,s.yc⟩ ⟨tsE,hq',B,s.yc⟩/\I (i+1) hq') (λ_ _=>False))) (λ_ _=>False)))
  (fin:(N=xs.length/\∀ hq,I N hq->K .normal ⟨tsE,hq,B,s.yc⟩)\/∃ x,xs[N]? = some x/\∀ hq,I N hq->∀ (C1:Ctx) (l:Nat),C1.G=C.G->C1.hp0=hq->C1.Y=none->GW P C1 n [] (some l) assign ⟨zav ps.toList x.toList tsE,hq,B,0⟩
    (zbx (λs1=>∀ C2:Ctx,C2.G=C.G->C2.hp0=hq->C2.Y=none->zfs C2 l->GW P C2 n [] (some l) body s1 (λe s2=>(zbk e).isSome=true/\(∀ t,zap (dom s2.hp) (tsE t))/\K e ⟨tsE,s2.hp,s2.B,s.yc⟩)) (λ_ _=>False)))
  (hYn:C.Y≠some .still) {r:Nat->Nat} {a:Act} {W:World} (hi0:GI P C n d r s a W) :
  (Code.rangeFunc (.tmp t) ps assign body).wpIn (Fw P none) 0 P (λe a' W'=>∃ s' r',(K e s'/\GI P C n d r' s' a' W')/\a'.tmps=a.tmps/\(∀ k,dom (rst s.hp rs) k->W'.heap[r k]? = W.heap[r k]?)/\(∀ i,dom s'.hp i->∀ k∈rs,100<=k->r' i≠r k)) a W:=by
 obtain ⟨pn,hpn⟩:∃ pn:Option Value,pn=none:=⟨_,rfl⟩
 have hi:=hi0.weak hw
 obtain ⟨So,ms,hX0,hSo,hsep,⟨hdef,hnd⟩,hms⟩:=hi0.ri.ext
 have hcapv:a.eval (.tmp t)=.func (.func f) #[] (caps.map (zan r)):=by
  have:=((hi0.ri.rel t).resolve_left (by rw [hg];simp [zcm])).1
  rw [hg] at this
  simpa [ren,zay,zak,Act.eval] using this
 have hcap:caps.map (zan r)=caps.map (ren r):=Array.map_congr_left λx hx=>(zcf (hit.cids x hx).1).symm
 rw [hcap] at hcapv
 refine wpIn_rangeFunc ?_
 rintro fn ⟨fnn,hfnn⟩
 obtain ⟨rec,hrec⟩:∃ rec:LoopState->Option Code->Loop,rec=λst pe=>{ state:=st,pending:=pe,fn,tmps:=a.tmps,params:=ps,assign,body,defers:=W.heap.size }:=⟨_,rfl⟩
 obtain ⟨W1,hW1⟩:∃ W1,(W.alloc (.deferred (some []))).alloc (.loop (rec .ready none))=W1:=⟨_,rfl⟩
 have hL1:W1.heap[W.heap.size+1]? = some (.loop (rec .ready none)):=by
  rw [<-hW1];have:=World.alloc_heap_new (W.alloc (.deferred (some []))) (.loop (rec .ready none));rwa [World.size_alloc] at this
 have hK1:W1.heap[W.heap.size]? = some (.deferred (some [])):=by
  rw [<-hW1];exact (Below.heap_alloc _ _ _ (by simp)).trans (World.alloc_heap_new W _)
 have hsz1:W1.heap.size=W.heap.size+2:=by rw [<-hW1];simp
 have hb1:Below W.heap.size W W1:=by
  rw [<-hW1];exact (((Below.refl _ W).alloc (Nat.le_refl _) _).alloc (by simp) _)
 let l:=W.heap.size+1
 let D0:=W.heap.size
 let capd:Nat->Prop:=λj=>∃ i,i∈rs/\100<=i/\r i=j
 -- what is said between two rounds
 let Lv:LoopState->Option Code->World->Prop:=λst pe V=>V.heap[l]? = some (.loop (rec st pe))/\V.heap[D0]? = some (.deferred (some []))
 let XX:Nat->(Nat->Prop)->World->Prop:=λc S V=>(∀ k,So k->S k)/\(∀ D∈ms,S D)/\S l/\S D0/\(∀ k,S k->¬capd k) /\
  ((c<=N/\∃ hq,I c hq/\(∀ x,B<=x->hq x=none)/\∃ rc,(∀ i,dom hq i->S (rc i))/\zmp S V (λV'=>Own0 C d So ms s.yc a rc tsE hq V'/\Lv .ready none V')) \/
  (c=N+1/\∃ e hpE BE rc,((pn=none/\(zbk e).isSome=true)\/∃ pv,pn=some pv/\e=.panic [{ v:=pv,recovered:=false }])/\K e ⟨tsE,hpE,BE,s.yc⟩/\(∀ x,BE<=x->hpE x=none)/\100<=BE/\(∀ i,dom hpE i->S (rc i))/\zmp S V (λV'=>Own0 C d So ms s.yc a rc tsE hpE V'/\V'.heap[D0]? = some (.deferred (some []))/\∀ j,zbk e=some j->Lv .done (some j) V')))
 let E:Ext:=⟨XX,λc S V V' h hs os tape output size=>⟨h.1,h.2.1,h.2.2.1,h.2.2.2.1,h.2.2.2.2.1,h.2.2.2.2.2.imp (λ⟨hc,hq,hI,hf,rc,h1,h2⟩=>⟨hc,hq,hI,hf,rc,h1,h2.trans (λ_ h=>h) hs os tape output size⟩)
  (λ⟨hc,e,hpE,BE,rc,h1,h2,h3,h4,h5,h6⟩=>⟨hc,e,hpE,BE,rc,h1,h2,h3,h4,h5,h6.trans (λ_ h=>h) hs os tape output size⟩)⟩⟩
 have sub:∀ i,dom (hpS) i->dom s.hp i:=λi hd=>by
  have hhp:hpS i=none\/hpS i=s.hp i:=by
   by_cases hk:100<=i
   ·exact hw.hp i hk
   ·exact .inr ((hw.glob i (by omega)).trans (hi0.ri.glob i (by omega)).symm)
  rcases hhp with e|e
  ·exact absurd e hd
  ·have e:hpS i=s.hp i:=e
   unfold dom at *;rw [<-e];exact hd
 have own0:Own0 C d So ms s.yc a r tsE (hpS) W1:=⟨hi.ri.rel,λk b hk=>⟨(hb1.block _ (hi.ri.lt (k:=k) (by unfold dom;show hpS k≠none;rw [hk];simp))).trans (hi.ri.sat k b hk).1,(hi.ri.sat k b hk).2⟩,hi.ri.inj,
  C.E.ok _ _ _ _ hX0 (λk hk=>hb1.block k (hSo k hk)) hb1.os hb1.tape hb1.output hb1.size,λi hd h1=>hsep i (sub i hd) h1,
  λD hD=>(hb1.block D (Array.getElem?_eq_some_iff.1 (hms D hD).1).1).trans (hms D hD).1,hi.ri.keep,hi.ri.glob,hi.ri.low⟩
 have incap:∀ i,dom s.hp i->capd (r i)->i∈rs:=λi hd ⟨j,hj,_,e⟩=>by
  have:=hi0.ri.inj j i (hdis j hj).2 hd e
  exact this▸hj
 let S1:Nat->Prop:=λk=>k<W1.heap.size/\¬capd k
 have capSmall:∀ k,capd k->k<W.heap.size:=λk ⟨i,hi1,_,e⟩=>e▸hi0.ri.lt (hdis i hi1).2
 have s1So:∀ k,So k->S1 k:=λk hk=>⟨by have:=hSo k hk;omega,λ⟨i,hi1,h1,e⟩=>hsep i (hdis i hi1).2 h1 (e▸hk)⟩
 have s1ms:∀ D∈ms,S1 D:=λD hD=>⟨by have:=(Array.getElem?_eq_some_iff.1 (hms D hD).1).1;omega,λ⟨i,hi1,_,e⟩=>hi0.ri.ne_mark (hdis i hi1).2 (hms D hD).1 e⟩
 have s1l:S1 l:=⟨by omega,λhc=>by have:=capSmall _ hc;omega⟩
 have s1D:S1 D0:=⟨by omega,λhc=>by have:=capSmall _ hc;omega⟩
 have s1hp:∀ i,dom (hpS) i->S1 (r i):=λi hd=>⟨by have:=hi0.ri.lt (sub i hd);omega,λhc=>hd (hdis i (incap i (sub i hd) hc)).1⟩
 have X0:XX 0 S1 W1:=⟨s1So,s1ms,s1l,s1D,λk hk=>hk.2,.inl ⟨Nat.zero_le _,hpS,h0,hw.free,r,s1hp,λV k1 k2 k3 k4 k5=>⟨own0.supp s1So s1hp s1ms V k1 k2 k3 k4 k5,(k1 l s1l).trans hL1,(k1 D0 s1D).trans hK1⟩⟩⟩
 have gokOf:∀ {rc:Nat->Nat} {hpc:Hp} {V:World},Sat rc (dom hpc) hpc V->(∀ k,k<100->hpc k=C.G k)->(∀ k,k<100->dom hpc k->rc k=k)->GOK C.G V:=λ{rc hpc V} h1 h2 h3 k b hk=>by
  obtain ⟨hlt,hfl⟩:=hi0.flat k b hk
  have hb:hpc k=some b:=(h2 k hlt).trans hk
  have h9:=(h1 k b hb).1
  rw [h3 k hlt (by unfold dom;rw [hb];simp)] at h9
  rw [h9]
  rw [Blk.obj_flat (λx hx=>hfl x hx)]
 -- one round
 have hround:zft P C.G E ⟨l,xs,N,pn,none⟩:=by
  refine zft.of_none rfl ?_
  intro c x S V hgok hx hc hXc hSV
  obtain ⟨kSo,kms,kl,kD,kcap,hcase⟩:=hXc
  have hcN:c<=N:=hc
  obtain ⟨hc',hq,hI,hfreeC,rc,hrcS,hsupp⟩:c<=N/\∃ hq,I c hq/\(∀ x,B<=x->hq x=none)/\∃ rc,(∀ i,dom hq i->S (rc i))/\zmp S V (λV'=>Own0 C d So ms s.yc a rc tsE hq V'/\Lv .ready none V'):=by
   rcases hcase with h|h
   ·exact h
   ·omega
  obtain ⟨hown,hl,hD⟩:=hsupp.here
  have hxm:=hxs x (List.mem_of_getElem? hx)
  have hy:=run_yield (P:=P) (args:=x) hl (by rw [hrec];exact hxm.1)
  rw [hrec] at hy
  refine ⟨fn,_,assign,body,hy,zd5 ⟨fnn,hfnn⟩ hfnn ?_⟩
  have hrel:=znk (r:=rc) (D:=dom hq) (ps.toList.zip x.toList) tsE a.tmps (λp hp1=>⟨by rw [hi0.ri.size];exact hps _ (by simpa using (List.of_mem_zip hp1).1),hxm.2 _ (by simpa using (List.of_mem_zip hp1).2)⟩) hown.ri
  have htm:(ps.zip x).foldl (λt (p:Tmp×Value)=>t.setIfInBounds p.1 p.2) a.tmps=(ps.toList.zip x.toList).foldl (λt (p:Tmp×Value)=>t.setIfInBounds p.1 p.2) a.tmps:=by
   rw [<-Array.foldl_toList,Array.toList_zip]
  have hsize:((ps.zip x).foldl (λt (p:Tmp×Value)=>t.setIfInBounds p.1 p.2) a.tmps).size=n:=by
   rw [htm,zey,hi0.ri.size]
  let im:Nat->Prop:=imO rc hq
  let RR:Ending->World->Prop:=λe W'=>(match (YG.mk l xs N pn none).pan c with|none=>e=.returned (.bool (c != N))|some pv=>e=.panicked [{ v:=pv,recovered:=false }])/\GOK C.G W'/\V.heap.size<=W'.heap.size/\(∀ k,k<V.heap.size->¬S k->W'.heap[k]? = V.heap[k]?) /\
      ∃ S',XX (c+1) S' W'/\(∀ k,S' k->k<W'.heap.size)/\∀ k,S' k->k<V.heap.size->S k
  -- the assignment to the loop's variables
  let C1:Ctx:=⟨zdt V im,hq,rc,C.G,none⟩
  have ltV:∀ i,dom hq i->rc i<V.heap.size:=λi hd=>hSV _ (hrcS i hd)
  have gi1:GI P C1 n [] rc ⟨zav ps.toList x.toList tsE,hq,B,0⟩ { tmps:=(ps.zip x).foldl (λt (p:Tmp×Value)=>t.setIfInBounds p.1 p.2) a.tmps,defers:=[] } V:=by
   refine ⟨⟨hsize,?_,hown.sat,hown.inj,⟨λk=>k<V.heap.size/\¬im k,[],⟨λ_=>Iff.rfl,rfl,rfl,rfl,Nat.le_refl _,λ_ _=>rfl⟩,λk hk=>hk.1,λi hd _ hS=>hS.2 ⟨i,hd,rfl⟩,⟨rfl,List.nodup_nil⟩,by simp⟩,λi hd=>⟨hd,rfl⟩,hown.glob,hown.low⟩,hfreeC,hw.low,hi0.flat,λy hy=>by cases hy⟩
   rw [htm];exact hrel
  have hSol:¬So l:=λh=>by have:=hSo _ h;omega
  -- a round's frame,from its assignment on
  have both:∀ (Kb:Exit->GS->Prop),GW P C1 n [] (some l) assign ⟨zav ps.toList x.toList tsE,hq,B,0⟩ (zbx (λs1=>∀ C2:Ctx,C2.G=C.G->C2.hp0=hq->C2.Y=none->zfs C2 l->GW P C2 n [] (some l) body s1 Kb) (λ_ _=>False)) ->
    (∀ e s2 (r2:Nat->Nat) (V1 V2:World) (a1 a2:Act) (r1:Nat->Nat) (ts1:Nat->Value) (hp1:Hp) (y1:Nat) (D1:Nat->Prop),(∀ k,k<V.heap.size->D1 k->imO r1 hp1 k)->¬D1 l->Kb e s2->RI ⟨zdt V im,hq,rc,C.G,none⟩ n [] r1 ts1 hp1 y1 a1 V1 ->
     GI P ⟨zdt (V1.putObj l (.loop (rec .busy none))) D1,hq,rc,C.G,none⟩ n [] r2 s2 a2 V2->zdu (Fs P) 0 P fnn l RR e a2 V2) ->
    assign.wpIn ((Fs P).inRound l) 0 P (Exit.then (λa₁ w₁=>∃ w₂,(Instr.beginRound l).run P w₁=.ok () w₂/\body.wpIn ((Fs P).inRound l) 0 P (zdu (Fs P) 0 P fnn l RR) a₁ w₂) (λ_ _ _=>False))
     { tmps:=(ps.zip x).foldl (λt (p:Tmp×Value)=>t.setIfInBounds p.1 p.2) a.tmps,defers:=[] } V:=λKb hgw hend=>by
   refine wpIn_mono (hgw rc _ V gi1) ?_
   rintro e a1 V1 ⟨s1,r1,hk1,gi⟩
   cases e with
   | normal =>
    obtain ⟨T1,m1,⟨hT1,os1,tp1,ou1,sz1,sm1⟩,hT1s,sep1,df1,dm1⟩:=gi.ri.ext
    have hl1:V1.heap[l]? = some (.loop (rec .ready none)):=by
     rw [sm1 l ((hT1 l).2 ⟨hSV l kl,?_⟩)]
     ·exact hl
     ·rintro ⟨i,hd,e⟩
      unfold dom at hd
      cases hb:hq i with
      | none=>exact hd hb
      | some b=>have:=(hown.sat i b hb).1;rw [e,hl] at this;exact (Blk.obj_loop this).elim
    refine ⟨_,run_beginRound hl1 (by rw [hrec]),?_⟩
    have hrb:{ rec .ready none with state:=.busy }=rec .busy none:=by rw [hrec]
    rw [hrb]
    have hlt1:l<V1.heap.size:=(Array.getElem?_eq_some_iff.1 hl1).1
    let D1:Nat->Prop:=λk=>imO r1 s1.hp k\/k∈m1
    let C2:Ctx:=⟨zdt (V1.putObj l (.loop (rec .busy none))) D1,hq,rc,C.G,none⟩
    have gi2:GI P C2 n [] r1 s1 a1 (V1.putObj l (.loop (rec .busy none))):=by
     refine ⟨⟨gi.ri.size,gi.ri.rel,λk b hk=>⟨(World.putObj_heap_other (λe=>gi.ri.not_loop hl1 ⟨k,by unfold dom;rw [hk];simp,e⟩)).trans (gi.ri.sat k b hk).1,(gi.ri.sat k b hk).2⟩,gi.ri.inj,
      ⟨λk=>k<(V1.putObj l (.loop (rec .busy none))).heap.size/\¬D1 k,m1,⟨λ_=>Iff.rfl,rfl,rfl,rfl,Nat.le_refl _,λ_ _=>rfl⟩,λk hk=>hk.1,λi hd _ hS=>hS.2 (.inl ⟨i,hd,rfl⟩),df1,λD hD=>⟨?_,(λhS=>hS.2 (.inr hD)),λh=>nomatch h⟩⟩,
      λi hd=>gi.ri.keep i hd,gi.ri.glob,gi.ri.low⟩,gi.free,gi.low,gi.flat,λy hy=>by cases hy⟩
     rw [World.putObj_heap_other (λe=>?_)]
     ·exact (dm1 D hD).1
     ·have:=(dm1 D hD).1;rw [e,hl1] at this;cases this
    have hLA:zfs C2 l:=λc S V0 h=>by
     have hS:S l:=(h.1 l).2 ⟨by rw [zbz];exact hlt1,λhD=>hD.elim (λh=>gi.ri.not_loop hl1 h) λh=>by have:=(dm1 l h).1;rw [hl1] at this;cases this⟩
     exact ⟨hS,_,(h.2.2.2.2.2 l hS).trans (World.putObj_heap_same hlt1)⟩
    refine wpIn_mono (hk1 C2 rfl rfl rfl hLA r1 a1 _ gi2) ?_
    rintro e2 a2 V2 ⟨s2,r2,hk2,gi3⟩
    refine hend e2 s2 r2 V1 V2 a1 a2 r1 s1.ts s1.hp s1.yc D1 (λk hk hD=>?_) (λhD=>?_) hk2 gi.ri gi3
    ·rcases hD with h|h
     ·exact h
     ·have h2:=(dm1 k h).2.1
      rw [hT1] at h2
      obtain ⟨i,hd,e⟩:=Classical.byContradiction λhc=>h2 ⟨hk,hc⟩
      have h3:=(dm1 k h).1
      by_cases h100:100<=i
      ·have:dom s1.hp i/\r1 i=rc i:=gi.ri.keep i hd
       exact ⟨i,this.1,this.2.trans e⟩
      ·have:dom s1.hp i/\r1 i=rc i:=gi.ri.keep i hd
       exact ⟨i,this.1,this.2.trans e⟩
    ·rcases hD with h|h
     ·exact gi.ri.not_loop hl1 h
     ·have:=(dm1 l h).1;rw [hl1] at this;cases this
   | _=>exact hk1.elim
  -- what a round leaves,put together
  have post:∀ (st:LoopState) (pe:Option Code) (r2:Nat->Nat) (V1 V2:World) (a1 a2:Act) (r1:Nat->Nat) (ts1 ts2:Nat->Value) (hp1 hp2:Hp) (y1 y2:Nat) (D1:Nat->Prop),(∀ k,k<V.heap.size->D1 k->imO r1 hp1 k)->¬D1 l->RI ⟨zdt V im,hq,rc,C.G,none⟩ n [] r1 ts1 hp1 y1 a1 V1 ->
    RI ⟨zdt (V1.putObj l (.loop (rec .busy none))) D1,hq,rc,C.G,none⟩ n [] r2 ts2 hp2 y2 a2 V2 ->
    V2.heap[l]? = some (.loop (rec .busy none))/\GOK C.G (V2.putObj l (.loop (rec st pe)))/\V.heap.size<=(V2.putObj l (.loop (rec st pe))).heap.size/\(∀ k,k<V.heap.size->¬S k->(V2.putObj l (.loop (rec st pe))).heap[k]? = V.heap[k]?) /\
    ∃ S':Nat->Prop,(∀ k,So k->S' k)/\(∀ D∈ms,S' D)/\S' l/\S' D0/\(∀ i,dom hp2 i->S' (r2 i))/\zmp S' (V2.putObj l (.loop (rec st pe))) (λV'=>Own0 C d So ms s.yc a r2 tsE hp2 V'/\Lv st pe V') /\
     (∀ k,S' k->k<(V2.putObj l (.loop (rec st pe))).heap.size)/\(∀ k,S' k->k<V.heap.size->S k):=λst pe r2 V1 V2 a1 a2 r1 ts1 ts2 hp1 hp2 y1 y2 D1 hD1 hD1l ri1 ri2=>by
   obtain ⟨_,q1,q2,q3,q4,q5,q6⟩:=zkt (L2:=rec st pe) hi0.flat hown hSol hSV kSo kms hrcS hl ri1 hD1 hD1l ri2
   have sz:(V2.putObj l (.loop (rec st pe))).heap.size=V2.heap.size:=zbz _ _ _
   have hnim:∀ k,¬S k->¬imO rc hq k:=λk hk ⟨i,hd,e⟩=>hk (e▸hrcS i hd)
   refine ⟨q1,q6,by rw [sz];exact q4,λk hk hnS=>q5 k hk (hnim k hnS) (λe=>hnS (e▸kl)),λk=>S k\/(V.heap.size<=k/\k<V2.heap.size),λk hk=>.inl (kSo k hk),λD hD=>.inl (kms D hD),.inl kl,.inl kD,λi hd=>?_,?_,λk hk=>?_,λk hk hlt=>?_⟩
   ·rcases q3 i hd with h|h
    ·exact .inr ⟨h,by
      unfold dom at hd
      cases hb:hp2 i with
      | none=>exact absurd hb hd
      | some b=>have:=(Array.getElem?_eq_some_iff.1 (q2.sat i b hb).1).1;rwa [sz] at this⟩
    ·exact .inl h
   ·have hD0:(V2.putObj l (.loop (rec st pe))).heap[D0]? = some (.deferred (some [])):=by
     rw [q5 D0 (hSV D0 kD) (λ⟨i,hd',e⟩=>by
      unfold dom at hd'
      cases hb:hq i with
      | none=>exact hd' hb
      | some b=>have:=(hown.sat i b hb).1;rw [e,hD] at this;exact (Blk.obj_def this).elim) (by omega)]
     exact hD
    have hlt2:l<V2.heap.size:=(Array.getElem?_eq_some_iff.1 q1).1
    refine λV' k1 k2 k3 k4 k5=>⟨q2.supp (S:=λk=>S k\/(V.heap.size<=k/\k<V2.heap.size)) (λk hk=>.inl (kSo k hk)) (λi hd=>?_) (λD hD=>.inl (kms D hD)) V' k1 k2 k3 k4 k5,(k1 l (.inl kl)).trans (World.putObj_heap_same hlt2),(k1 D0 (.inl kD)).trans hD0⟩
    rcases q3 i hd with h|h
    ·exact .inr ⟨h,by
      unfold dom at hd
      cases hb:hp2 i with
      | none=>exact absurd hb hd
      | some b=>have:=(Array.getElem?_eq_some_iff.1 (q2.sat i b hb).1).1;rwa [sz] at this⟩
    ·exact .inl h
   ·rw [sz]
    rcases hk with h|h
    ·exact Nat.lt_of_lt_of_le (hSV k h) q4
    ·exact h.2
   ·exact hk.resolve_right (by omega)
  have capN:∀ S':Nat->Prop,(∀ k,S' k->k<V.heap.size->S k)->∀ k,S' k->¬capd k:=λS' h12 k hk hc=>by
   by_cases hlt:k<V.heap.size
   ·exact kcap k (h12 k hk hlt) hc
   ·have h5:=capSmall k hc
    have h6:=hSV D0 kD
    exact hlt (by omega)
  by_cases hcn:c<N
  ·refine both _ (rounds c x hq hcn hx hI C1 l rfl rfl rfl) ?_
   intro e s2 r2 V1 V2 a1 a2 r1 ts1 hp1 y1 D1 hD1 hD1l hk ri1 gi2
   cases e with
   | normal =>
    obtain ⟨ρ,hq',hwr,hI'⟩:=hk
    obtain ⟨p1,p2,p3,p4,S',p5,p6,p7,p8,p9,p10,p11,p12⟩:=post .ready none r2 V1 V2 a1 a2 r1 ts1 _ hp1 _ y1 _ D1 hD1 hD1l ri1 gi2.ri
    have hend:=run_endRound (P:=P) none p1
    rw [hrec] at hend p2 p3 p4 p10 p11
    refine ⟨_,_,hend,?_,p2,p3,p4,S',⟨p5,p6,p7,p8,capN S' p12,.inl ⟨hcn,hq',hI',hwr.free,λk=>r2 (ρ k),λi hd=>p9 (ρ i) (hwr.subd (λk hk=>gi2.ri.glob k hk) i hd),?_⟩⟩,p11,p12⟩
    ·have h1:(YG.mk l xs N pn none).pan c=none:=by
      show (if c=N then pn else none)=none
      rw [if_neg (by omega)]
     have h2:(c != N)=true:=by simp;omega
     rw [h1,h2];rfl
    ·intro V' k1 k2 k3 k4 k5
     have:=p10 V' k1 k2 k3 k4 k5
     exact ⟨this.1.rename hwr,by simpa [hrec] using this.2⟩
   | _=>exact hk.elim
  ·obtain rfl:c=N:=by omega
   have hpanN:(YG.mk l xs c pn none).pan c=pn:=by
    show (if c=c then pn else none)=pn
    rw [if_pos rfl]
   cases pn with
   | none =>
    rcases fin with ⟨e,_⟩|⟨x',hx',hfin⟩
    ·obtain ⟨h9,_⟩:=List.getElem?_eq_some_iff.1 hx;have h9:c<xs.length:=h9;omega
    ·have hx:xs[c]? = some x:=hx
     rw [hx] at hx';cases hx'
     refine both _ (hfin hq hI C1 l rfl rfl rfl) ?_
     intro e s2 r2 V1 V2 a1 a2 r1 ts1 hp1 y1 D1 hD1 hD1l hk ri1 gi2
     obtain ⟨hk1,hk2,hk3⟩:=hk
     cases ho:zbk e with
     | none=>rw [ho] at hk1;cases hk1
     | some j =>
      obtain ⟨p1,p2,p3,p4,S',p5,p6,p7,p8,p9,p10,p11,p12⟩:=post .done (some j) r2 V1 V2 a1 a2 r1 ts1 _ hp1 _ y1 _ D1 hD1 hD1l ri1 gi2.ri
      have hend:=run_endRound (P:=P) (some j) p1
      rw [hrec] at hend p2 p3 p4 p10 p11
      have hR:∃ v w',(Instr.endRound l (some j)).run P V2=.ok v w'/\RR (.returned v) w':=by
       refine ⟨_,_,hend,?_,p2,p3,p4,S',⟨p5,p6,p7,p8,capN S' p12,.inr ⟨rfl,e,s2.hp,s2.B,r2,.inl ⟨rfl,hk1⟩,hk3,gi2.free,gi2.low,p9,?_⟩⟩,p11,p12⟩
       ·rw [hpanN];simp
       ·intro V' k1 k2 k3 k4 k5
        obtain ⟨q1,q2⟩:=p10 V' k1 k2 k3 k4 k5
        refine ⟨q1,q2.2,λj' hj'=>?_⟩
        rw [ho] at hj';cases hj'
        simpa [hrec] using q2
      cases e<;>simp only [zbk,Option.some.injEq,reduceCtorEq] at ho
      ·subst ho;exact hR
      ·subst ho;exact hR
      ·subst ho;exact hR
   | some pv=>cases hpn
 -- behind the iterator
 refine ⟨l,[zwr D0],W1,{ target:=.fn (.func f) (caps.map (ren r)),args:=#[.func (.yield l) #[] #[]] },W1,f,#[Value.func (.yield l) #[] #[]]++caps.map (ren r),W1,?_,?_,λf' hf'=>?_,?_,λh=>(by cases h),?_⟩
 ·rw [<-hW1,hrec];exact run_enterLoop_outer _ _ _ _ _
 ·simp only [resolve,hcapv]
  simp [go_sem,Act.eval]
 ·simp [Target.leads] at hf'
  subst hf'
  exact zff (hit.enter #[] default)
 ·simp [invoke,go_sem,hit.enter]
 ·have hsat1:Sat r (dom (rst s.hp rs)) (rst s.hp rs) W1:=λk b hk=>⟨(hb1.block _ (hi0.ri.lt (k:=k) (by unfold dom;rw [zda hk];simp))).trans (hi0.ri.sat k b (zda hk)).1,hit.closed k b hk⟩
  have hsubr:∀ k,dom (rst s.hp rs) k->dom s.hp k:=λk hk=>by
   unfold dom at *
   cases hb:rst s.hp rs k with
   | none=>exact absurd hb hk
   | some b=>rw [zda hb];simp
  subst hpn
  have hcalls:=hit.run E l N r S1 W1 (gokOf own0.sat own0.glob own0.low) hsat1 (λk l' hk hl=>hi0.ri.inj k l' (hsubr k hk) (hsubr l' hl)) (λk hk hd=>hi0.ri.low k hk (hsubr k hd)) hround X0 (λk hk=>hk.1) (λi hd h1 hS=>hS.2 ?_)
  ·refine CallsIn.mono (hcalls:CallsIn (Fw P none) 0 P _ _ _ _) ?_
   -- the owner's activation,behind it all
   have giV:∀ (rc:Nat->Nat) (hpE:Hp) (BE:Nat) (V:World),(∀ x,BE<=x->hpE x=none)->100<=BE->Own0 C d So ms s.yc a rc tsE hpE V->V.heap[D0]? = some (.deferred (some []))->W.heap.size<=V.heap.size ->
     GI P C n d rc ⟨tsE,hpE,BE,s.yc⟩ { a with defers:=[zwr D0]++a.defers } V:=λrc hpE BE V hfree hBE hown hD hsz =>
    ⟨⟨hi0.ri.size,hown.ri,hown.sat,hown.inj,
     ⟨So,D0::ms,hown.X,λk hk=>Nat.lt_of_lt_of_le (hSo k hk) hsz,hown.sep,⟨by simp [hdef],List.nodup_cons.2 ⟨λhm=>by have:=(Array.getElem?_eq_some_iff.1 (hms D0 hm).1).1;omega,hnd⟩⟩,λD hDm=>by
      rcases List.mem_cons.1 hDm with rfl|hDm
      ·exact ⟨hD,(λhS=>by have:=hSo _ hS;omega),hYn⟩
      ·exact ⟨hown.mks D hDm,(hms D hDm).2⟩⟩,
     hown.keep,hown.glob,hown.low⟩,hfree,hBE,hi0.flat,hi0.rounds⟩
   have szOf:∀ {S:Nat->Prop} {V:World} {c:Nat},XX c S V->(∀ V,XX c S V->S l->True)->V.heap[D0]? = some (.deferred (some []))->W.heap.size<=V.heap.size:=λ{S V c} _ _ h=>by
    have:=(Array.getElem?_eq_some_iff.1 h).1;omega
   rintro e V ⟨⟨v,rfl⟩,⟨S',hX⟩,hkeepB⟩
   obtain ⟨kSo,kms,kl,kD,kcap,hcase⟩:=hX
   have keepF:∀ ob k,dom (rst s.hp rs) k->(V.putObj l ob).heap[r k]? = W.heap[r k]?:=λob k hk=>by
    have hlt:=hi0.ri.lt (hsubr k hk)
    rw [World.putObj_heap_other (λe=>by have e':W.heap.size+1=r k:=e.symm;omega),hkeepB k hk]
    exact hb1.block _ hlt
   have noCap:∀ (rc:Nat->Nat) (hpE:Hp),(∀ i,dom hpE i->S' (rc i))->∀ i,dom hpE i->∀ k∈rs,100<=k->rc i≠r k:=λrc hpE hrcS i hd k hk h1 e=>kcap (rc i) (hrcS i hd) ⟨k,hk,h1,e.symm⟩
   have fini:∀ (st:LoopState) (pe:Option Code) (rc:Nat->Nat) (hpE:Hp) (BE:Nat),st≠.busy->(∀ x,BE<=x->hpE x=none)->100<=BE->Own0 C d So ms s.yc a rc tsE hpE V->Lv st pe V ->
     (Instr.endLoop l).run P V=.ok pe (V.putObj l (.loop { rec st pe with state:=.exhausted }))/\GI P C n d rc ⟨tsE,hpE,BE,s.yc⟩ { a with defers:=[zwr D0]++a.defers } (V.putObj l (.loop { rec st pe with state:=.exhausted })):=λst pe rc hpE BE hst hfree hBE hown ⟨hl,hD⟩=>by
    have hend:=run_endLoop (P:=P) hl (by rw [hrec];exact hst)
    refine ⟨by rw [hrec] at hend |-;exact hend,?_⟩
    have hlt:l<V.heap.size:=(Array.getElem?_eq_some_iff.1 hl).1
    have szV:∀ ob,(V.putObj l ob).heap.size=V.heap.size:=λob=>zbz _ _ _
    refine ⟨⟨hi0.ri.size,hown.ri,λk b hk=>⟨(World.putObj_heap_other (λe=>?_)).trans (hown.sat k b hk).1,(hown.sat k b hk).2⟩,hown.inj,
     ⟨So,D0::ms,C.E.ok _ _ _ _ hown.X (λk hk=>World.putObj_heap_other (λe=>by have:=hSo k hk;omega)) rfl rfl rfl (by rw [szV];exact Nat.le_refl _),λk hk=>by rw [szV];have:=hSo k hk;omega,hown.sep,⟨by simp [hdef],List.nodup_cons.2 ⟨λhm=>?_,hnd⟩⟩,λD hDm=>?_⟩,
     hown.keep,hown.glob,hown.low⟩,hfree,hBE,hi0.flat,hi0.rounds⟩
    ·have:=(hown.sat k b hk).1;rw [e,hl] at this;exact (Blk.obj_loop this).elim
    ·have:=(Array.getElem?_eq_some_iff.1 (hms D0 hm).1).1;omega
    ·rcases List.mem_cons.1 hDm with rfl|hDm
     ·exact ⟨(World.putObj_heap_other (by omega)).trans hD,(λhS=>by have:=hSo _ hS;omega),hYn⟩
     ·exact ⟨(World.putObj_heap_other (λe=>by have:=hown.mks D hDm;rw [e,hl] at this;cases this)).trans (hown.mks D hDm),(hms D hDm).2⟩
   rcases hcase with ⟨hc',hq,hI,hfree,rc,hrcS,hsupp⟩|⟨hc',e,hpE,BE,rc,ho,hk,hfree,hBE,hrcS,hsupp⟩
   ·obtain ⟨hown,hLv⟩:=hsupp.here
    have hNl:N=xs.length:=by omega
    have hmin:min (N+1) xs.length=N:=by omega
    rw [hmin] at hI
    obtain ⟨f1,f2⟩:=fini .ready none rc hq B (by simp) hfree hw.low hown hLv
    rcases fin with ⟨_,hK⟩|⟨x',hx',_⟩
    ·exact ⟨none,_,f1,_,rc,⟨hK hq hI,f2⟩,rfl,keepF _,noCap rc hq hrcS⟩
    ·obtain ⟨h9,_⟩:=List.getElem?_eq_some_iff.1 hx';omega
   ·obtain ⟨hown,_,hLv⟩:=hsupp.here
    rcases ho with ⟨_,ho⟩|⟨pv,h1,_⟩
    ·cases hoj:zbk e with
     | none=>rw [hoj] at ho;cases ho
     | some j =>
      obtain ⟨f1,f2⟩:=fini .done (some j) rc hpE BE (by simp) hfree hBE hown (hLv j hoj)
      refine ⟨some j,_,f1,?_⟩
      cases e<;>simp only [zbk,Option.some.injEq,reduceCtorEq] at hoj
      ·subst hoj;exact wpIn_exit ⟨_,rc,⟨hk,f2⟩,rfl,keepF _,noCap rc hpE hrcS⟩
      ·subst hoj;exact wpIn_goto ⟨_,rc,⟨hk,f2⟩,rfl,keepF _,noCap rc hpE hrcS⟩
      ·subst hoj;exact wpIn_ret ⟨_,rc,⟨hk,f2⟩,rfl,keepF _,noCap rc hpE hrcS⟩
    ·cases h1
  ·refine ⟨i,?_,h1,rfl⟩
   unfold dom rst at hd
   split at hd
   ·rename_i h;exact h.resolve_left (by omega)
   ·exact absurd rfl hd
theorem IterK.under {f:FuncId} {caps:Array Value} {hp hp':Hp} {rs:List Nat} {xs:List (Array Value)} (h:IterK P G f caps hp rs xs) (e:rst hp' rs=rst hp rs):IterK P G f caps hp' rs xs :=
 ⟨h.enter,by rw [e];exact h.cids,by rw [e];exact h.closed,by rw [e];exact h.run⟩
def zb3 (asd:List Nat) (hp0 hp:Hp):Hp:=λk=>if k∈asd then hp0 k else hp k
theorem WeakR.ctx {C':Ctx} {ρ:Nat->Nat} {s s':GS} (h:C.hp0=C'.hp0) (hG:C.G=C'.G) (hw:WeakR C ρ s s'):WeakR C' ρ s s':=⟨hw.ts,hw.hp,hw.ids,hw.inj,hw.id,by rw [<-hG];exact hw.rest,by rw [<-h];exact hw.keep,by rw [<-hG];exact hw.glob,hw.yc,hw.free,hw.low⟩
theorem zlf {t:Tmp} {ps:Array Tmp} {assign body:Code} {f:FuncId} {caps:Array Value} {rs:List Nat} {xs:List (Array Value)} (asd:List Nat) (hY:C.Y=none) (hg:s.ts t=.func (.func f) #[] caps) (hit:IterK P C.G f caps s.hp rs xs)
  (hxs:∀ x∈xs,x.size=ps.size/\∀ v∈x,za0 v=true) (hps:∀ p∈ps,p<n) (tsE tsF:Nat->Value) (I:Nat->Hp->Prop) {hpS:Hp} (B:Nat) (N:Nat) (hN:N<=xs.length)
  (hras:∀ k∈rs,k∈asd) (has:∀ k∈asd,100<=k/\dom s.hp k) (hcl:∀ k∈asd,∀ b,s.hp k=some b->b.ids λq=>q∈asd\/(q<100/\dom C.G q))
  (hw:∀ C0:Ctx,C0.G=C.G->(C0.hp0=λk=>if k∈asd then none else C.hp0 k)->Weak C0 s ⟨tsE,hpS,B,s.yc⟩) (h0:I 0 hpS) (hnS:∀ k∈asd,hpS k=none)
  (hF:∀ u,tsF u=tsE u\/(tsF u=s.ts u/\zap (λq=>q∈asd) (s.ts u)))
  (rounds:∀ i x hq,i<N->xs[i]? = some x->I i hq->∀ (C1:Ctx) (l:Nat),C1.G=C.G->C1.hp0=hq->C1.Y=none->GW P C1 n [] (some l) assign ⟨zav ps.toList x.toList tsE,hq,B,0⟩
   (zbx (λs1=>∀ C2:Ctx,C2.G=C.G->C2.hp0=hq->C2.Y=none->zfs C2 l->GW P C2 n [] (some l) body s1 (zbx (λs2=>∃ ρ hq',(∀ C0:Ctx,C0.G=C.G->(C0.hp0=λk=>if k∈asd then none else C.hp0 k)->WeakR C0 ρ ⟨tsE,s2.hp,s2.B,s.yc⟩ ⟨tsE,hq',B,s.yc⟩)/\I (i+1) hq') (λ_ _=>False))) (λ_ _=>False)))
  (fin:(N=xs.length/\∀ hq,I N hq->(∀ k∈asd,hq k=none/\k<B)/\K .normal ⟨tsF,zb3 asd s.hp hq,B,s.yc⟩)\/∃ x,xs[N]? = some x/\∀ hq,I N hq->∀ (C1:Ctx) (l:Nat),C1.G=C.G->C1.hp0=hq->C1.Y=none->GW P C1 n [] (some l) assign ⟨zav ps.toList x.toList tsE,hq,B,0⟩
    (zbx (λs1=>∀ C2:Ctx,C2.G=C.G->C2.hp0=hq->C2.Y=none->zfs C2 l->GW P C2 n [] (some l) body s1 (λe s2=>(zbk e).isSome=true/\(∀ t,zap (dom s2.hp) (tsE t))/\(∀ k∈asd,s2.hp k=none/\k<s2.B)/\K e ⟨tsF,zb3 asd s.hp s2.hp,s2.B,s.yc⟩)) (λ_ _=>False))) :
  GW P C n d none (.rangeFunc (.tmp t) ps assign body) s K:=by
 intro r a W hi
 obtain ⟨So,ms,hX0,hSo,hsep,hdef,hms⟩:=hi.ri.ext
 have hA100:∀ k,k<100->k∉asd:=λk hk hm=>by have:=(has k hm).1;omega
 let A:Nat->Prop:=λj=>∃ i,i∈asd/\i∉rs/\r i=j
 let E':Ext:=⟨λc S V=>C.E.X c So V/\(∀ k,So k->S k)/\∀ j,A j->S j/\V.heap[j]? = W.heap[j]?,
  λc S V V' h hs os tape output size=>⟨C.E.ok _ _ _ _ h.1 (λk hk=>hs k (h.2.1 k hk)) os tape output size,h.2.1,λj hj=>⟨(h.2.2 j hj).1,(hs j (h.2.2 j hj).1).trans (h.2.2 j hj).2⟩⟩⟩
 let C':Ctx:={ C with E:=E',hp0:=λk=>if k∈asd then none else C.hp0 k }
 have hw':=hw C' rfl rfl
 let hpR:Hp:=λk=>if k∈rs then s.hp k else hpS k
 let s':GS:=⟨λu=>if u=t then s.ts t else tsE u,hpR,s.B,s.yc⟩
 have subS:∀ k b,hpS k=some b->s.hp k=some b:=λk b hb=>by
  by_cases h1:100<=k
  ·rcases hw'.hp k h1 with h|h
   ·have h:hpS k=none:=h
    rw [h] at hb;cases hb
   ·have h:hpS k=s.hp k:=h
    rw [<-h];exact hb
  ·have h2:hpS k=C.G k:=hw'.glob k (by omega)
   rw [hi.ri.glob k (by omega),<-h2];exact hb
 have subR:∀ k b,hpR k=some b->s.hp k=some b:=λk b hb=>by
  by_cases h1:k∈rs
  ·have:hpR k=s.hp k:=by simp [hpR,h1]
   rw [<-this];exact hb
  ·have:hpR k=hpS k:=by simp [hpR,h1]
   exact subS k b (this▸hb)
 have domR:∀ k,dom hpR k->dom s.hp k:=λk hk=>by
  unfold dom at hk |-
  cases hb:hpR k with
  | none=>exact absurd hb hk
  | some b=>rw [subR k b hb];simp
 have domSR:∀ k,dom hpS k->dom hpR k:=λk hk=>by
  unfold dom at *
  by_cases h1:k∈rs
  ·exact absurd (hnS k (hras k h1)) hk
  ·simpa [hpR,h1] using hk
 have erst:rst hpR rs=rst s.hp rs:=funext λk=>by
  unfold rst
  by_cases h1:k∈rs
  ·simp [hpR,h1]
  ·by_cases h2:k<100
   ·have e1:hpS k=C.G k:=hw'.glob k h2
    simp [hpR,h1,h2,e1,hi.ri.glob k h2]
   ·simp [h1,h2]
 have domrst:∀ k,dom (rst s.hp rs) k->dom hpR k:=λk hk=>by
  rw [<-erst] at hk
  unfold dom at *
  cases hb:rst hpR rs k with
  | none=>exact absurd hb hk
  | some b=>rw [zda hb];simp
 have hit':IterK P C'.G f caps s'.hp rs xs:=hit.under erst
 have hi':GI P C' n d r s' a W:=by
  refine ⟨⟨hi.ri.size,λu=>?_,λk b hk=>⟨(hi.ri.sat k b (subR k b hk)).1,?_⟩,λk l hk hl e=>hi.ri.inj k l (domR k hk) (domR l hl) e,⟨λk=>So k\/A k,ms,⟨hX0,λk hk=>.inl hk,λj hj=>⟨.inr hj,rfl⟩⟩,λk hk=>?_,λi hd h1 hS=>?_,hdef,λD hD=>⟨(hms D hD).1,λhS=>?_,(hms D hD).2.2⟩⟩,λi hd=>?_,λk hk=>?_,λk hk hd=>hi.ri.low k hk (domR k hd)⟩,λx hx=>?_,hi.low,hi.flat,λy hy=>by have hy:C.Y=some y:=hy;rw [hY] at hy;cases hy⟩
  ·by_cases hu:u=t
   ·subst hu
    right
    have e:=(hi.ri.rel u).resolve_left (by rw [hg];simp [zcm])
    refine ⟨by simpa [s'] using e.1,?_⟩
    have e2:s'.ts u=.func (.func f) #[] caps:=by simp [s',hg]
    rw [e2]
    refine ⟨by simp,λx hx=>?_⟩
    have:=hit.cids x hx
    exact zf5 domrst ((zb1 this.1).1 this.2)
   ·have e2:s'.ts u=tsE u:=by simp [s',hu]
    rw [e2]
    rcases hw'.ts u with h|⟨h,hid⟩
    ·exact .inl h
    ·have h:tsE u=s.ts u:=h
     rcases hi.ri.rel u with h3|h3
     ·exact .inl (h.trans h3)
     ·exact .inr ⟨by rw [h];exact h3.1,zcp domSR hid⟩
  ·by_cases h1:k∈rs
   ·have hk2:rst s.hp rs k=some b:=by
     have:s.hp k=some b:=subR k b hk
     simp [rst,h1,this]
    exact Blk.ids_mono domrst (hit.closed k b hk2)
   ·have hk2:hpS k=some b:=by
     have:hpR k=hpS k:=by simp [hpR,h1]
     exact this▸hk
    exact Blk.ids_mono domSR (hw'.ids k b hk2)
  ·rcases hk with hk|⟨i,hi1,_,rfl⟩
   ·exact hSo k hk
   ·exact hi.ri.lt (has i hi1).2
  ·rcases hS with hS|⟨i',hi1,hi2,e⟩
   ·exact hsep i (domR i hd) h1 hS
   ·have:i'=i:=hi.ri.inj i' i (has i' hi1).2 (domR i hd) e
    subst this
    have hd':hpR i'≠none:=hd
    have:hpR i'=hpS i':=by simp [hpR,hi2]
    exact hd' (this.trans (hnS i' hi1))
  ·rcases hS with hS|⟨i,hi1,_,e⟩
   ·exact (hms D hD).2.1 hS
   ·exact hi.ri.ne_mark (has i hi1).2 (hms D hD).1 e
  ·have hna:i∉asd:=λhm=>by
    have:(if i∈asd then none else C.hp0 i)≠none:=hd
    simp [hm] at this
   have hd0:dom C.hp0 i:=by
    have:(if i∈asd then none else C.hp0 i)≠none:=hd
    rw [if_neg hna] at this
    exact this
   refine ⟨?_,(hi.ri.keep i hd0).2⟩
   by_cases h1:100<=i
   ·have hk:=hw'.keep i h1 hd
    refine domSR i ?_
    have h2:=(hi.ri.keep i hd0).1
    unfold dom at *
    have hk:hpS i=s.hp i:=hk
    rw [hk];exact h2
   ·have h2:=(hi.ri.keep i hd0).1
    refine domSR i ?_
    have e1:hpS i=C.G i:=hw'.glob i (by omega)
    unfold dom at *
    rw [e1,<-hi.ri.glob i (by omega)];exact h2
  ·have h1:k∉rs:=λhm=>hA100 k hk (hras k hm)
   have:hpR k=hpS k:=by simp [hpR,h1]
   show hpR k=C.G k
   rw [this];exact hw'.glob k hk
  ·cases hb:hpR x with
   | none=>exact hb
   | some b =>
    have h1:s.hp x=none:=hi.free x hx
    rw [subR x b hb] at h1;cases h1
 have hw2:Weak C' s' ⟨tsE,hpS,B,s'.yc⟩:=by
  refine ⟨λu=>?_,λk hk=>?_,hw'.ids,λk h1 hd=>?_,hw'.glob,rfl,hw'.free,hw'.low⟩
  ·rcases hw'.ts u with h|⟨h,hid⟩
   ·exact .inl h
   ·refine .inr ⟨?_,hid⟩
    by_cases hu:u=t
    ·subst hu;simpa [s'] using h
    ·simp [s',hu]
  ·by_cases h1:k∈rs
   ·exact .inl (hnS k (hras k h1))
   ·exact .inr (by simp [s',hpR,h1])
  ·have hna:k∉asd:=λhm=>by
    have:(if k∈asd then none else C.hp0 k)≠none:=hd
    simp [hm] at this
   have h2:k∉rs:=λhm=>hna (hras k hm)
   show hpS k=hpR k
   simp [hpR,h2]
 have main:=zz0 (P:=P) (C:=C') (n:=n) (d:=d) (s:=s') (K:=λe s2=>(∀ k∈asd,s2.hp k=none/\k<s2.B)/\(∀ u,s2.ts u=tsE u)/\s2.yc=s.yc/\K e ⟨tsF,zb3 asd s.hp s2.hp,s2.B,s.yc⟩) (t:=t) (ps:=ps) (assign:=assign) (body:=body) (f:=f) (caps:=caps) (rs:=rs) (xs:=xs) (by simp [s',hg]) hit' hxs hps tsE I B N hN hw2 h0
  (λk hk=>⟨hnS k (hras k hk),by have:=(has k (hras k hk)).2;unfold dom at *;simpa [s',hpR,hk] using this⟩)
  (λi x hq h1 h2 h3 C1 l h4 h5 h6=>zcb (rounds i x hq h1 h2 h3 C1 l h4 h5 h6) λe s1 hs=>by
   cases e with
   | normal =>
    intro C2 q1 q2 q3 q4
    refine zcb (hs C2 q1 q2 q3 q4) λe s2 hs2=>?_
    cases e with
    | normal =>
     obtain ⟨ρ,hq',hr1,hr2⟩:=hs2
     exact ⟨ρ,hq',hr1 C' rfl rfl,hr2⟩
    | _=>exact hs2.elim
   | _=>exact hs.elim)
  (fin.imp (λ⟨h1,h2⟩=>⟨h1,λhq hI=>⟨(h2 hq hI).1,λ_=>rfl,rfl,(h2 hq hI).2⟩⟩) (λ⟨x,h1,h2⟩=>⟨x,h1,λhq hI C1 l q1 q2 q3=>zcb (h2 hq hI C1 l q1 q2 q3) λe s1 hs=>by
   cases e with
   | normal =>
    intro C2 p1 p2 p3 p4
    exact zcb (hs C2 p1 p2 p3 p4) λe s2 hs2=>⟨hs2.1,hs2.2.1,hs2.2.2.1,λ_=>rfl,rfl,hs2.2.2.2⟩
   | _=>exact hs.elim⟩))
  (by show C.Y≠some .still;rw [hY];simp) hi'
 refine wpIn_mono main ?_
 rintro e a' W' ⟨s2,r2,⟨⟨hna,hts2,hyc,hK⟩,gi⟩,htm,hkB,hnc⟩
 obtain ⟨S2,m2,⟨hX2,hSo2,hA2⟩,hS2,hsep2,hdef2,hms2⟩:=gi.ri.ext
 let r3:Nat->Nat:=λk=>if k∈asd then r k else r2 k
 have r3as:∀ k,k∈asd->r3 k=r k:=λk hk=>by simp [r3,hk]
 have r3no:∀ k,dom s2.hp k->r3 k=r2 k:=λk hk=>by
  have:k∉asd:=λhm=>hk (hna k hm).1
  simp [r3,this]
 have domF1:∀ k,k∈asd->dom (zb3 asd s.hp s2.hp) k:=λk hk=>by
  have:=(has k hk).2
  unfold dom zb3 at *;simpa [hk] using this
 have domF2:∀ k,dom s2.hp k->dom (zb3 asd s.hp s2.hp) k:=λk hk=>by
  have h1:k∉asd:=λhm=>hk (hna k hm).1
  unfold dom zb3 at *;simpa [h1] using hk
 have hpF1:∀ k b,zb3 asd s.hp s2.hp k=some b->(k∈asd/\s.hp k=some b)\/(k∉asd/\s2.hp k=some b):=λk b hb=>by
  unfold zb3 at hb
  by_cases h1:k∈asd
  ·simp only [h1,if_true] at hb;exact .inl ⟨h1,hb⟩
  ·simp only [h1,if_false] at hb;exact .inr ⟨h1,hb⟩
 have domF:∀ k,dom (zb3 asd s.hp s2.hp) k->k∈asd\/(k∉asd/\dom s2.hp k):=λk hk=>by
  unfold dom at hk
  cases hb:zb3 asd s.hp s2.hp k with
  | none=>exact absurd hb hk
  | some b=>exact (hpF1 k b hb).imp (λh=>h.1) (λh=>⟨h.1,by unfold dom;rw [h.2];simp⟩)
 refine ⟨⟨tsF,zb3 asd s.hp s2.hp,s2.B,s.yc⟩,r3,hK,⟨⟨gi.ri.size,λu=>?_,λk b hk=>?_,λk l hk hl e=>?_,⟨So,m2,?_,λk hk=>hS2 k (hSo2 k hk),λi hd h1 hS=>?_,hdef2,λD hD=>⟨(hms2 D hD).1,λhS=>(hms2 D hD).2.1 (hSo2 D hS),(hms2 D hD).2.2⟩⟩,λi hd=>?_,λk hk=>?_,λk hk hd=>?_⟩,λx hx=>?_,gi.low,hi.flat,hi.rounds⟩⟩
 ·rcases hF u with h|⟨h,hid⟩
  ·rcases gi.ri.rel u with h3|h3
   ·exact .inl (h.trans ((hts2 u).symm.trans h3))
   ·rw [hts2 u] at h3
    exact .inr ⟨by
     have e1:a'.tmps.getD u undef=ren r3 (tsF u):=by rw [h,zcy r3no h3.2];exact h3.1
     exact e1,by
     have e2:zap (dom (zb3 asd s.hp s2.hp)) (tsF u):=by rw [h];exact zcp domF2 h3.2
     exact e2⟩
  ·rcases hi.ri.rel u with h3|h3
   ·exact .inl (h.trans h3)
   ·exact .inr ⟨by
     have e1:a'.tmps.getD u undef=ren r3 (tsF u):=by rw [h,htm,zcy r3as hid];exact h3.1
     exact e1,by
     have e2:zap (dom (zb3 asd s.hp s2.hp)) (tsF u):=by rw [h];exact zcp domF1 hid
     exact e2⟩
 ·rcases hpF1 k b hk with ⟨h1,h2⟩|⟨h1,h2⟩
  ·have hid:=hcl k h1 b h2
   have dQ:∀ q,q<100->dom C.G q->dom s2.hp q/\dom s.hp q:=λq h5 h6=>by
    have e1:s2.hp q=C.G q:=gi.ri.glob q h5
    have e2:s.hp q=C.G q:=hi.ri.glob q h5
    unfold dom at *
    rw [e1,e2]
    exact ⟨h6,h6⟩
   have r3Q:∀ q,(q∈asd\/(q<100/\dom C.G q))->r3 q=r q:=λq hq=>hq.elim (r3as q) λ⟨h5,h6⟩=>by
    obtain ⟨d2,d1⟩:=dQ q h5 h6
    rw [r3no q d2,gi.ri.low q h5 d2,hi.ri.low q h5 d1]
   refine ⟨?_,Blk.ids_mono (λq hq=>hq.elim (domF1 q) λ⟨h5,h6⟩=>domF2 q (dQ q h5 h6).1) hid⟩
   rw [r3as k h1,Blk.obj_congr r3Q hid,<-(hi.ri.sat k b h2).1]
   by_cases h3:k∈rs
   ·refine hkB k ?_
    show dom (rst hpR rs) k
    rw [erst]
    unfold dom rst;simp [h3,h2]
   ·exact (hA2 (r k) ⟨k,h1,h3,rfl⟩).2
  ·have hd:dom s2.hp k:=by unfold dom;rw [h2];simp
   have h3:=gi.ri.sat k b h2
   refine ⟨?_,Blk.ids_mono domF2 h3.2⟩
   rw [r3no k hd,Blk.obj_congr r3no h3.2]
   exact h3.1
 ·have mixed:∀ k l,k∈asd->l∉asd->dom s2.hp l->r k=r2 l->False:=λk l hk hl hd e=>by
   by_cases h3:k∈rs
   ·exact hnc l hd k h3 (has k hk).1 e.symm
   ·by_cases h1:100<=l
    ·exact hsep2 l hd h1 (e▸(hA2 (r k) ⟨k,hk,h3,rfl⟩).1)
    ·have e1:s2.hp l=C.G l:=gi.ri.glob l (by omega)
     have e2:s.hp l=C.G l:=hi.ri.glob l (by omega)
     have hd2:dom s.hp l:=by unfold dom at *;rw [e2,<-e1];exact hd
     have e3:r2 l=l:=gi.ri.low l (by omega) hd
     have e4:r l=l:=hi.ri.low l (by omega) hd2
     have:k=l:=hi.ri.inj k l (has k hk).2 hd2 (by rw [e,e3,e4])
     exact hl (this▸hk)
  rcases domF k hk with h1|⟨h1,hd1⟩<;>rcases domF l hl with h2|⟨h2,hd2⟩
  ·rw [r3as k h1,r3as l h2] at e
   exact hi.ri.inj k l (has k h1).2 (has l h2).2 e
  ·rw [r3as k h1,r3no l hd2] at e
   exact (mixed k l h1 h2 hd2 e).elim
  ·rw [r3no k hd1,r3as l h2] at e
   exact (mixed l k h2 h1 hd1 e.symm).elim
  ·rw [r3no k hd1,r3no l hd2] at e
   exact gi.ri.inj k l hd1 hd2 e
 ·have:E'.X s2.yc S2 W':=⟨hX2,hSo2,hA2⟩
  show C.E.X s.yc So W'
  rw [<-hyc];exact hX2
 ·rcases domF i hd with h2|⟨h2,hd2⟩
  ·rw [r3as i h2] at hS;exact hsep i (has i h2).2 h1 hS
  ·rw [r3no i hd2] at hS;exact hsep2 i hd2 h1 (hSo2 _ hS)
 ·by_cases h1:i∈asd
  ·exact ⟨domF1 i h1,(r3as i h1).trans (hi.ri.keep i hd).2⟩
  ·have hd':dom C'.hp0 i:=by
    show (if i∈asd then none else C.hp0 i)≠none
    rw [if_neg h1];exact hd
   have hk:dom s2.hp i/\r2 i=C.r0 i:=gi.ri.keep i hd'
   exact ⟨domF2 i hk.1,(r3no i hk.1).trans hk.2⟩
 ·have h1:=hA100 k hk
  show zb3 asd s.hp s2.hp k=C.G k
  unfold zb3;rw [if_neg h1];exact gi.ri.glob k hk
 ·have h1:=hA100 k hk
  rcases domF k hd with h2|⟨_,hd2⟩
  ·exact absurd h2 h1
  ·rw [r3no k hd2];exact gi.ri.low k hk hd2
 ·have hx:s2.B<=x:=hx
  have h1:x∉asd:=λhm=>by have:=(hna x hm).2;omega
  show zb3 asd s.hp s2.hp x=none
  unfold zb3;rw [if_neg h1];exact gi.free x hx
theorem zt9 {t:Tmp} {ps:Array Tmp} {assign body:Code} {f:FuncId} {caps:Array Value} {rs:List Nat} {xs:List (Array Value)} (asd:List Nat) (hY:C.Y=none) (hg:s.ts t=.func (.func f) #[] caps) (hit:IterK P C.G f caps s.hp rs xs)
  (hxs:∀ x∈xs,x.size=ps.size/\∀ v∈x,za0 v=true) (hps:∀ p∈ps,p<n) (tsE tsF:Nat->Value) (I:Nat->Hp->Prop) {hpS:Hp} (B:Nat) (N:Nat) (hN:N<=xs.length)
  (hras:∀ k∈rs,k∈asd) (has:∀ k∈asd,100<=k/\dom s.hp k) (hcl:∀ k∈asd,∀ b,s.hp k=some b->b.ids λq=>q∈asd\/(q<100/\dom C.G q))
  (hw:∀ C0:Ctx,C0.G=C.G->(C0.hp0=λk=>if k∈asd then none else C.hp0 k)->Weak C0 s ⟨tsE,hpS,B,s.yc⟩) (h0:I 0 hpS) (hnS:∀ k∈asd,hpS k=none)
  (hF:∀ u,tsF u=tsE u\/(tsF u=s.ts u/\zap (λq=>q∈asd) (s.ts u)))
  (rounds:∀ i x hq,i<N->xs[i]? = some x->I i hq->∀ (C1:Ctx) (l:Nat),C1.G=C.G->C1.hp0=hq->C1.Y=none->GW P C1 n [] (some l) assign ⟨zav ps.toList x.toList tsE,hq,B,0⟩
   (zbx (λs1=>∀ C2:Ctx,C2.G=C.G->C2.hp0=hq->C2.Y=none->GW P C2 n [] (some l) body s1 (zbx (λs2=>∃ ρ hq',(∀ C0:Ctx,C0.G=C.G->(C0.hp0=λk=>if k∈asd then none else C.hp0 k)->WeakR C0 ρ ⟨tsE,s2.hp,s2.B,s.yc⟩ ⟨tsE,hq',B,s.yc⟩)/\I (i+1) hq') (λ_ _=>False))) (λ_ _=>False)))
  (fin:(N=xs.length/\∀ hq,I N hq->(∀ k∈asd,hq k=none/\k<B)/\K .normal ⟨tsF,zb3 asd s.hp hq,B,s.yc⟩)\/∃ x,xs[N]? = some x/\∀ hq,I N hq->∀ (C1:Ctx) (l:Nat),C1.G=C.G->C1.hp0=hq->C1.Y=none->GW P C1 n [] (some l) assign ⟨zav ps.toList x.toList tsE,hq,B,0⟩
    (zbx (λs1=>∀ C2:Ctx,C2.G=C.G->C2.hp0=hq->C2.Y=none->GW P C2 n [] (some l) body s1 (λe s2=>(zbk e).isSome=true/\(∀ t,zap (dom s2.hp) (tsE t))/\(∀ k∈asd,s2.hp k=none/\k<s2.B)/\K e ⟨tsF,zb3 asd s.hp s2.hp,s2.B,s.yc⟩)) (λ_ _=>False))) :
  GW P C n d none (.rangeFunc (.tmp t) ps assign body) s K :=
 zlf asd hY hg hit hxs hps tsE tsF I B N hN hras has hcl hw h0 hnS hF (λi x hq h1 h2 h3 C1 l h4 h5 h6=>zcb (rounds i x hq h1 h2 h3 C1 l h4 h5 h6) λe s1 h=>by
   cases e<;>first|exact λC2 k1 k2 k3 _=>h C2 k1 k2 k3|exact h)
  (fin.imp id λ⟨x,hx,h⟩=>⟨x,hx,λhq h3 C1 l h4 h5 h6=>zcb (h hq h3 C1 l h4 h5 h6) λe s1 h=>by
   cases e<;>first|exact λC2 k1 k2 k3 _=>h C2 k1 k2 k3|exact h⟩)
theorem zn5 {t:Tmp} {ps:Array Tmp} {assign body:Code} {f:FuncId} {caps:Array Value} {rs:List Nat} {xs:List (Array Value)} (asd:List Nat) (hY:C.Y=none) (hg:s.ts t=.func (.func f) #[] caps) (hit:IterK P C.G f caps s.hp rs xs)
  (hxs:∀ x∈xs,x.size=ps.size/\∀ v∈x,za0 v=true) (hps:∀ p∈ps,p<n) (tsE tsF:Nat->Value) (I:Nat->Hp->Prop) {hpS:Hp} (B:Nat) (N:Nat) (hN:N<=xs.length)
  (hras:∀ k∈rs,k∈asd) (has:∀ k∈asd,100<=k/\dom s.hp k) (hcl:∀ k∈asd,∀ b,s.hp k=some b->b.ids λq=>q∈asd)
  (hw:∀ C0:Ctx,C0.G=C.G->(C0.hp0=λk=>if k∈asd then none else C.hp0 k)->Weak C0 s ⟨tsE,hpS,B,s.yc⟩) (h0:I 0 hpS) (hnS:∀ k∈asd,hpS k=none)
  (hF:∀ u,tsF u=tsE u\/(tsF u=s.ts u/\zap (λq=>q∈asd) (s.ts u)))
  (rounds:∀ i x hq,i<N->xs[i]? = some x->I i hq->∀ (C1:Ctx) (l:Nat),C1.G=C.G->C1.hp0=hq->C1.Y=none->GW P C1 n [] (some l) assign ⟨zav ps.toList x.toList tsE,hq,B,0⟩
   (zbx (λs1=>∀ C2:Ctx,C2.G=C.G->C2.hp0=hq->C2.Y=none->GW P C2 n [] (some l) body s1 (zbx (λs2=>∃ ρ hq',(∀ C0:Ctx,C0.G=C.G->(C0.hp0=λk=>if k∈asd then none else C.hp0 k)->WeakR C0 ρ ⟨tsE,s2.hp,s2.B,s.yc⟩ ⟨tsE,hq',B,s.yc⟩)/\I (i+1) hq') (λ_ _=>False))) (λ_ _=>False)))
  (fin:(N=xs.length/\∀ hq,I N hq->(∀ k∈asd,hq k=none/\k<B)/\K .normal ⟨tsF,zb3 asd s.hp hq,B,s.yc⟩)\/∃ x,xs[N]? = some x/\∀ hq,I N hq->∀ (C1:Ctx) (l:Nat),C1.G=C.G->C1.hp0=hq->C1.Y=none->GW P C1 n [] (some l) assign ⟨zav ps.toList x.toList tsE,hq,B,0⟩
    (zbx (λs1=>∀ C2:Ctx,C2.G=C.G->C2.hp0=hq->C2.Y=none->GW P C2 n [] (some l) body s1 (λe s2=>(zbk e).isSome=true/\(∀ t,zap (dom s2.hp) (tsE t))/\(∀ k∈asd,s2.hp k=none/\k<s2.B)/\K e ⟨tsF,zb3 asd s.hp s2.hp,s2.B,s.yc⟩)) (λ_ _=>False))) :
  GW P C n d none (.rangeFunc (.tmp t) ps assign body) s K:=by
 refine zt9 (f:=f) (rs:=rs) (xs:=xs) (caps:=caps) asd hY hg hit hxs hps tsE tsF I B N hN hras has (λk hk b hb=>Blk.ids_mono (λq hq=>.inl hq) (hcl k hk b hb)) hw h0 hnS hF rounds fin
section
variable {P:Program} {G:Hp}
theorem IterK.rn {f:FuncId} {caps:Array Value} {hp hp':Hp} {rs:List Nat} {xs:List (Array Value)} (ρ:Nat->Nat) (hGF:zbo G) (hG:∀ k,k<100->hp k=G k) (h:Rn ρ hp hp' rs) (hi:IterK P G f caps hp rs xs):IterK P G f (caps.map (zan ρ)) hp' (rs.map ρ) xs:=by
 have hpl:∀ x,zbr x=true->zbr (zan ρ x)=true:=λx hx=>by
  cases x with
  | pointer p=>cases p<;>rfl
  | slice p _ _=>cases p<;>rfl
  | map p=>cases p<;>rfl
  | _=>exact hx
 have bflat:∀ k b,k<100->hp k=some b->b.rn ρ=b:=λk b hk hb=>by
  have hg:G k=some b:=(hG k hk).symm.trans hb
  exact Blk.rn_flat (hGF k b hg).2
 have back:∀ k b,rst hp' (rs.map ρ) k=some b->∃ q c,rst hp rs q=some c/\ρ q=k/\b=c.rn ρ:=λk b hb=>by
  unfold rst at hb
  by_cases h1:k<100
  ·simp only [h1,true_or,if_true] at hb
   have hl:=h.low k h1
   rw [hl.2] at hb
   exact ⟨k,b,by simp [rst,h1,hb],hl.1,(bflat k b h1 hb).symm⟩
  ·by_cases hm:k∈rs.map ρ
   ·obtain ⟨q,hq,rfl⟩:=List.mem_map.1 hm
    simp only [hm,or_true,if_true] at hb
    have hq1:100<=q:=by
     by_cases hq1:100<=q
     ·exact hq1
     ·exact absurd (by rw [(h.low q (by omega)).1];omega) h1
    obtain ⟨c,e1,e2⟩:=h.at' q hq hq1
    rw [e2] at hb;cases hb
    exact ⟨q,c,by simp [rst,hq,e1],rfl,rfl⟩
   ·simp [h1,hm] at hb
 refine ⟨hi.enter,λx hx=>?_,λk b hb=>?_,λE l stop r S W hgok hsat hinj hlow hR hX hS hdis=>?_⟩
 ·obtain ⟨y,hy,rfl⟩:=Array.mem_map.1 hx
  have:=hi.cids y hy
  exact ⟨hpl y this.1,(zb1 (hpl y this.1)).2 (zin (λk hk=>h.dom1 hk) ((zb1 this.1).1 this.2))⟩
 ·obtain ⟨q,c,h1,rfl,rfl⟩:=back k b hb
  exact Blk.ids_rn (λk hk=>h.dom1 hk) (hi.closed q c h1)
 ·have hcap:(caps.map (zan ρ)).map (ren r)=caps.map (ren λk=>r (ρ k)):=by
   rw [Array.map_map]
   refine Array.map_congr_left λx hx=>?_
   have:=(hi.cids x hx).1
   simp only [Function.comp]
   rw [<-zcf (r:=ρ) this,zcn]
  rw [hcap]
  refine (hi.run E l stop (λk=>r (ρ k)) S W hgok (λk b hk=>⟨?_,hi.closed k b hk⟩) (λk l hk hl e=>?_) (λk hk hd=>?_) hR hX hS (λi hd h1=>?_)).mono (λ_ _ hh=>⟨hh.1,hh.2.1,λk hk=>?_⟩)
  ·have hd:dom (rst hp rs) k:=by unfold dom;rw [hk];simp
   have hd':=h.dom1 hd
   unfold dom at hd'
   cases hb:rst hp' (rs.map ρ) (ρ k) with
   | none=>exact absurd hb hd'
   | some b' =>
    have e:b'=b.rn ρ:=by
     unfold rst at hb hk
     by_cases h1:k<100
     ·have hl:=h.low k h1
      simp only [h1,true_or,if_true] at hk
      rw [hl.1] at hb
      simp only [h1,true_or,if_true] at hb
      rw [hl.2,hk] at hb
      cases hb
      exact (bflat k b h1 hk).symm
     ·have hm:k∈rs:=by
       by_cases hm:k∈rs
       ·exact hm
       ·simp [h1,hm] at hk
      simp only [hm,or_true,if_true] at hk
      obtain ⟨c,e1,e2⟩:=h.at' k hm (by omega)
      rw [hk] at e1;cases e1
      have hm':ρ k∈rs.map ρ:=List.mem_map.2 ⟨k,hm,rfl⟩
      simp only [hm',or_true,if_true] at hb
      rw [e2] at hb;cases hb;rfl
    have:=(hsat _ b' hb).1
    rw [e,Blk.rn_obj] at this
    exact this
  ·have e2:=hinj _ _ (h.dom1 hk) (h.dom1 hl) e
   have mem:∀ k,dom (rst hp rs) k->100<=k->k∈rs:=λk hk h1=>by
    unfold dom rst at hk
    by_cases hm:k∈rs
    ·exact hm
    ·simp [hm] at hk;omega
   by_cases h1:k<100
   ·by_cases h2:l<100
    ·rw [(h.low k h1).1,(h.low l h2).1] at e2;exact e2
    ·have:=h.big l (mem l hl (by omega)) (by omega)
     rw [(h.low k h1).1] at e2;omega
   ·by_cases h2:l<100
    ·have:=h.big k (mem k hk (by omega)) (by omega)
     rw [(h.low l h2).1] at e2;omega
    ·exact h.inj k (mem k hk (by omega)) l (mem l hl (by omega)) (by omega) (by omega) e2
  ·show r (ρ k)=k
   have:=h.dom1 hd
   rw [(h.low k hk).1] at this |-
   exact hlow k hk this
  ·refine hdis _ (h.dom1 hd) (h.big i ?_ h1)
   unfold dom rst at hd
   by_cases hm:i∈rs
   ·exact hm
   ·simp [hm] at hd;omega
  ·unfold dom at hk
   cases hb:rst hp' (rs.map ρ) k with
   | none=>exact absurd hb hk
   | some b =>
    obtain ⟨q,c,h1,h2,_⟩:=back k b hb
    rw [<-h2]
    exact hh.2.2 q (by unfold dom;rw [h1];simp)
end
end
def Blk.fx (b:Blk):Prop:=match b.T with
 | .ty _=>∀ x∈b.c,zbf x=true
 | .raw _ _=>True
 | .mp=>False
theorem Blk.fx_ids {b:Blk} (h:b.fx) (D:Nat->Prop):b.ids D:=by
 obtain ⟨c,T⟩:=b
 cases T with
 | ty t=>exact Blk.flat_ids (b:=⟨c,.ty t⟩) h
 | raw t fr=>trivial
 | mp=>exact h.elim
theorem Blk.fx_rd {b:Blk} (h:b.fx):b.T.rd=true:=by
 obtain ⟨c,T⟩:=b
 cases T with
 | ty t=>rfl
 | raw t fr=>rfl
 | mp=>exact h.elim
theorem Blk.fx_rn {b:Blk} (h:b.fx) (ρ:Nat->Nat):b.rn ρ=b:=by
 obtain ⟨c,T⟩:=b
 cases T with
 | ty t=>exact Blk.rn_flat (b:=⟨c,.ty t⟩) h
 | raw t fr=>rfl
 | mp=>exact h.elim
theorem zeb {cs:Array Value} (h:∀ x∈cs,zbf x=true) (ρ:Nat->Nat):cs.map (zak ρ)=cs:=by
 have:=Blk.rn_flat (ρ:=ρ) (b:=⟨cs,.ty 0⟩) h
 simpa [Blk.rn] using this
section
variable {P:Program} {G:Hp}
structure LOk (m:List (Nat×Blk)) (B:Nat):Prop where
 big:∀ p∈m,100<=p.1/\p.1<B
 one:(zaa m).Nodup
 ids:∀ p∈m,p.2.ids λk=>k∈zaa m
theorem LOk.at {m:List (Nat×Blk)} (hn:(zaa m).Nodup):∀ p∈m,hpL G m p.1=some p.2:=by
 induction m with
 | nil=>intro p hp;cases hp
 | cons q m ih =>
  obtain ⟨k,b⟩:=q
  intro p hp
  simp only [zaa,List.map_cons,List.nodup_cons] at hn
  rw [zaq]
  rcases List.mem_cons.1 hp with rfl|hp
  ·simp
  ·have hne:¬p.1=k:=λe=>hn.1 (by rw [<-e];exact List.mem_map.2 ⟨p,hp,rfl⟩)
   rw [if_neg hne]
   exact ih hn.2 p hp
theorem LOk.low {m:List (Nat×Blk)} {B:Nat} (h:LOk m B):∀ k,k<100->hpL G m k=G k:=λ_ hk=>zbc (λp hp=>(h.big p hp).1) hk
theorem LOk.rst {m:List (Nat×Blk)} (hGF:zbo G):rst (hpL G m) (zaa m)=hpL G m:=zf3 hGF λp hp=>zag.2 ⟨p,hp,rfl⟩
theorem LOk.sub {m:List (Nat×Blk)} {B:Nat} (h:LOk m B) (k:Nat) (hk:k∈zaa m):dom (hpL G m) k:=by
 obtain ⟨p,hp,rfl⟩:=zag.1 hk
 unfold dom;rw [LOk.at h.one p hp];simp
theorem LOk.closed {m:List (Nat×Blk)} {B:Nat} (hGF:zbo G) (h:LOk m B) (k:Nat) (b:Blk) (hk:hpL G m k=some b):b.ids (dom (hpL G m)):=by
 rcases za5 hk with h1|h1
 ·exact Blk.ids_mono (λq hq=>h.sub q hq) (h.ids (k,b) h1)
 ·exact Blk.flat_ids (hGF k b h1).2
theorem LOk.free {m:List (Nat×Blk)} {B:Nat} (hGF:zbo G) (hB:100<=B) (h:LOk m B) (x:Nat) (hx:B<=x):hpL G m x=none:=by
 cases hb:hpL G m x with
 | none=>rfl
 | some b =>
  rcases za5 hb with h1|h1
  ·have:=(h.big _ h1).2;simp at this;omega
  ·have:=(hGF x b h1).1;omega
theorem zar {f:FuncId} {fn:Func} {c:Code} {args:Array Value} {m:List (Nat×Blk)} {v:Value} {ws:List (Nat×Blk)} {B:Nat} (hGF:zbo G) (hf:P.funcs[f]? = some fn) (hb:fn.body=some c) (hcall:∀ a w,(callFunc f a).run P w=.ok (.enter f a) w)
  (hm:LOk m B) (ha:∀ x∈args,zap (λk=>k∈zaa m) x) (hv:zap (λk=>k∈zaa m) v) (hw:∀ p∈ws,p.1∈zaa m/\p.2.ids (λk=>k∈zaa m)) (hw1:∀ k b c,(k,b)∈ws->(k,c)∈ws->b=c) (hn:args.size<=fn.ntmps) (hB:100<=B)
  (h:∀ C:Ctx,C.G=G->C.hp0=hpL G m->C.Y=none->GW P C fn.ntmps [] none c ⟨λt=>args.getD t undef,hpL G m,B,0⟩ (jqn P fn (hpL G m) (.ret v ws))):Fun P G f args (hpL G m) (zaa m) (.ret v ws):=by
 have e:=LOk.rst (m:=m) hGF
 refine zls (B:=B) hGF hm.low hf hb hcall (by rw [e];exact λx hx=>zcp (λq hq=>hm.sub q hq) (ha x hx)) (by rw [e];exact hm.closed hGF) ⟨by rw [e];exact zcp (λq hq=>hm.sub q hq) hv,λk hk=>?_,hw1,λp hp=>?_⟩ hn hB (by rw [e];exact hm.free hGF hB) (by rw [e];exact h)
 ·obtain ⟨p,hp,rfl⟩:=zag.1 hk
  have:=(hw p hp).1
  obtain ⟨q,hq,e1⟩:=zag.1 this
  exact ⟨this,hm.sub _ this,by rw [<-e1];exact (hm.big q hq).1⟩
 ·rw [e];exact Blk.ids_mono (λq hq=>hm.sub q hq) (hw p hp).2
theorem zdm {f:FuncId} {fn:Func} {c:Code} {caps:Array Value} {m:List (Nat×Blk)} {xs:List (Array Value)} {B:Nat} {v:Value} (hGF:zbo G) (hf:P.funcs[f]? = some fn) (hb:fn.body=some c) (hcall:∀ a w,(callFunc f a).run P w=.ok (.enter f a) w)
  (hm:LOk m B) (ha:∀ x∈caps,zbr x=true/\zap (λk=>k∈zaa m) x) (hn:caps.size+1<=fn.ntmps) (hB:100<=B)
  (h:∀ (C:Ctx) (l stop:Nat),C.G=G->C.hp0=hpL G m->C.Y=some ⟨l,xs,stop,none,none⟩->GW P C fn.ntmps [] none c ⟨λt=>(#[Value.func (.yield l) #[] #[]]++caps).getD t undef,hpL G m,B,0⟩
   (λe s=>(e=.normal\/e=.ret)/\zn1 P fn.results.toList s.ts s.hp=some v/\s.yc=min (stop+1) xs.length/\∀ k,dom (hpL G m) k->s.hp k=hpL G m k)):IterK P G f caps (hpL G m) (zaa m) xs:=by
 have e:=LOk.rst (m:=m) hGF
 exact z3s (B:=B) (v:=v) hGF hm.low hf hb hcall (by rw [e];exact λx hx=>⟨(ha x hx).1,zcp (λq hq=>hm.sub q hq) (ha x hx).2⟩) (by rw [e];exact hm.closed hGF) hn hB (by rw [e];exact hm.free hGF hB) (by rw [e];exact h)
theorem zet {f:FuncId} {fn:Func} {c:Code} {args:Array Value} {m:List (Nat×Blk)} {R:Value->List (Nat×Blk)->Prop} {B:Nat} (hGF:zbo G) (hf:P.funcs[f]? = some fn) (hb:fn.body=some c) (hcall:∀ a w,(callFunc f a).run P w=.ok (.enter f a) w)
  (hm:LOk m B) (ha:∀ x∈args,zap (λk=>k∈zaa m) x)
  (hfit:∀ v ns,R v ns->zap (zc7 (λk=>k∈zaa m) ns) v/\(∀ p∈ns,B<=p.1/\p.2.ids (zc7 (λk=>k∈zaa m) ns))/\(∀ k b c,(k,b)∈ns->(k,c)∈ns->b=c))
  (hn:args.size<=fn.ntmps) (hB:100<=B)
  (h:∀ C:Ctx,C.G=G->C.hp0=hpL G m->C.Y=none->GW P C fn.ntmps [] none c ⟨λt=>args.getD t undef,hpL G m,B,0⟩ λe s=>(e=.normal\/e=.ret)/\(∀ k,dom (hpL G m) k->s.hp k=hpL G m k) /\
   ∃ v ns ρ,R v ns/\(∀ k,k<B->ρ k=k)/\(∀ p∈ns,B<=ρ p.1)/\(∀ p∈ns,∀ q∈ns,ρ p.1=ρ q.1->p.1=q.1)/\zn1 P fn.results.toList s.ts s.hp=some (ren ρ v)/\∀ p∈ns,s.hp (ρ p.1)=some (p.2.rn ρ)):FunS P G f args (hpL G m) (zaa m) R:=by
 have e:=LOk.rst (m:=m) hGF
 have hlt:∀ k,dom (hpL G m) k->k<B:=λk hk=>by
  refine Classical.byContradiction λh1=>hk (hm.free hGF hB k (by omega))
 have ext:∀ ns k,zc7 (λk=>k∈zaa m) ns k->zc7 (dom (hpL G m)) ns k:=λns k hk=>hk.imp (λh1=>hm.sub k h1) id
 refine jar (B:=B) hGF hm.low hf hb hcall (by rw [e];exact λx hx=>zcp (λq hq=>hm.sub q hq) (ha x hx)) (by rw [e];exact hm.closed hGF) (λv ns hR=>?_) hn hB (by rw [e];exact hm.free hGF hB) (λC h1 h2 h3=>?_)
 ·rw [e]
  obtain ⟨f1,f2,f3⟩:=hfit v ns hR
  refine ⟨zcp (ext ns) f1,λk hk=>?_,f3,λp hp=>Blk.ids_mono (ext ns) (f2 p hp).2⟩
  obtain ⟨p,hp,rfl⟩:=zag.1 hk
  have:=(f2 p hp).1
  exact ⟨by omega,λhd=>by have:=hlt _ hd;omega⟩
 ·rw [e] at h2 |-
  refine zcb (h C h1 h2 h3) λe s=>λ⟨q1,q2,v,ns,ρ,q3,q4,q5,q6,q7,q8⟩=>⟨q1,q2,v,ns,ρ,q3,λk hk=>q4 k (hlt k hk),λp hp=>?_,q6,q7,q8⟩
  have:=q5 p hp
  exact ⟨λhd=>by have:=hlt _ hd;omega,by omega⟩
theorem zb4 {m:List (Nat×Blk)} (hGF:zbo G) {hp:Hp} (h1:∀ p∈m,hp p.1=hpL G m p.1) (h2:∀ k,k<100->hp k=hpL G m k):∀ k,dom (hpL G m) k->hp k=hpL G m k:=λk hk=>by
 unfold dom at hk
 cases hb:hpL G m k with
 | none=>exact absurd hb hk
 | some b =>
  rw [<-hb]
  rcases za5 hb with h|h
  ·exact h1 _ h
  ·exact h2 k (hGF k b h).1
theorem zpr {m:List (Nat×Blk)} {B:Nat} (hm:LOk m B) (ρ:Nat->Nat) (hlow:∀ k,k<100->ρ k=k) {hp:Hp} (hp0:∀ k,k<100->hp k=G k) (hat:∀ p∈m,100<=ρ p.1/\hp (ρ p.1)=some (p.2.rn ρ)) (hinj:∀ k∈zaa m,∀ l∈zaa m,ρ k=ρ l->k=l):Rn ρ (hpL G m) hp (zaa m):=by
 refine ⟨λk hk=>⟨hlow k hk,by rw [hp0 k hk,hm.low k hk]⟩,λk hk _=>?_,λk hk _=>?_,λk hk l hl _ _ e=>?_⟩
 ·obtain ⟨p,hp,rfl⟩:=zag.1 hk
  exact (hat p hp).1
 ·obtain ⟨p,hp,rfl⟩:=zag.1 hk
  exact ⟨p.2,LOk.at hm.one p hp,(hat p hp).2⟩
 ·exact hinj k hk l hl e
theorem zx9 {f:FuncId} {args args':Array Value} {m ws:List (Nat×Blk)} {B:Nat} {v:Value} {hp:Hp} {nk:Nat} {K:Eff->Prop} (h:Fun P G f args (hpL G m) (zaa m) (.ret v ws)) (hGF:zbo G) (hm:LOk m B) (ρ:Nat->Nat) (hlow:∀ k,k<100->ρ k=k) (ea:args.map (ren ρ)=args')
  (hat:∀ p∈m,100<=ρ p.1/\hp (ρ p.1)=some (p.2.rn ρ)) (hinj:∀ k∈zaa m,∀ l∈zaa m,ρ k=ρ l->k=l) (hK:K ((Res.ret (ren ρ v) (rnL ρ ws)).eff ((zaa m).map ρ))):zik P G f args' hp nk K:=by
 let hp':Hp:=λk=>if k<100 then G k else hp k
 have h1:Rn ρ (hpL G m) hp' (zaa m):=zpr hm ρ hlow (λk hk=>by simp [hp',hk]) (λp hp1=>⟨(hat p hp1).1,by
  show (if ρ p.1<100 then G (ρ p.1) else hp (ρ p.1))=_
  have:=(hat p hp1).1
  rw [if_neg (by omega)];exact (hat p hp1).2⟩) hinj
 subst ea
 refine zcl (h.rn ρ hGF hm.low h1) (λk hk=>?_) (λk hk=>by simp [hp',hk]) (by exact trivial) hK
 obtain ⟨q,hq,rfl⟩:=List.mem_map.1 hk
 obtain ⟨p,hp1,rfl⟩:=zag.1 hq
 show (if ρ p.1<100 then G (ρ p.1) else hp (ρ p.1))=_
 have:=(hat p hp1).1
 rw [if_neg (by omega)]
theorem zae {f:FuncId} {args args':Array Value} {m:List (Nat×Blk)} {B:Nat} {v:Value} {hp:Hp} {nk:Nat} {K:Eff->Prop} (h:Fun P G f args (hpL G m) (zaa m) (.ret v [])) (hGF:zbo G) (hm:LOk m B) (ρ:Nat->Nat) (hlow:∀ k,k<100->ρ k=k) (ea:args.map (ren ρ)=args') (hv:za0 v=true)
  (hat:∀ p∈m,100<=ρ p.1/\hp (ρ p.1)=some (p.2.rn ρ)) (hinj:∀ k∈zaa m,∀ l∈zaa m,ρ k=ρ l->k=l) {rs:List Nat} (er:(zaa m).map ρ=rs) (hK:K ((Res.ret v []).eff rs)):zik P G f args' hp nk K :=
 zx9 h hGF hm ρ hlow ea hat hinj (by rw [zau hv,er];exact hK)
theorem zep {f:FuncId} {caps caps':Array Value} {m:List (Nat×Blk)} {B:Nat} {xs:List (Array Value)} {hp:Hp} {rs:List Nat} (h:IterK P G f caps (hpL G m) (zaa m) xs) (hGF:zbo G) (hm:LOk m B) (ρ:Nat->Nat) (hlow:∀ k,k<100->ρ k=k) (ea:caps.map (zan ρ)=caps') (er:(zaa m).map ρ=rs)
  (hp0:∀ k,k<100->hp k=G k) (hat:∀ p∈m,100<=ρ p.1/\hp (ρ p.1)=some (p.2.rn ρ)) (hinj:∀ k∈zaa m,∀ l∈zaa m,ρ k=ρ l->k=l):IterK P G f caps' hp rs xs:=by
 subst ea er
 exact h.rn ρ hGF hm.low (zpr hm ρ hlow hp0 hat hinj)
end
section
variable {P:Program} {C:Ctx} {n:Nat} {d:List Deferred} {s:GS} {K:Exit->GS->Prop} {G:Hp}
theorem zz2 (v:Value):zay (λk=>k) v=v:=by
 cases v with
 | agg cs=>simp only [zay];rw [Array.map_congr_left (λx _=>zkr x)];simp
 | _=>unfold zay;exact zkr _
theorem z7o (v:Value):ren (λk=>k) v=v:=by
 cases v with
 | tuple cs=>simp only [ren];rw [Array.map_congr_left (λx _=>zz2 x)];simp
 | _=>unfold ren;exact zz2 _
theorem Blk.rn_id (b:Blk):b.rn (λk=>k)=b:=by
 obtain ⟨c,T⟩:=b
 cases T with
 | ty t=>simp only [Blk.rn];rw [Array.map_congr_left (λx _=>zkr x)];simp
 | raw t fr=>rfl
 | mp=>simp only [Blk.rn];rw [Array.map_congr_left (λx _=>zkr x)];simp
theorem jb6 {l l2:List (Nat×Value)} {u:Nat}:tsL (l++l2) u=tsL l u\/(u,tsL (l++l2) u)∈l2:=by
 induction l with
 | nil =>
  rcases zd7 (l:=l2) (t:=u) with h|h
  ·exact .inl h
  ·exact .inr h
 | cons p l ih =>
  obtain ⟨k,v⟩:=p
  rw [List.cons_append,znu,znu]
  by_cases h:u=k
  ·left;rw [if_pos h,if_pos h]
  ·rw [if_neg h,if_neg h];exact ih
theorem zg8 {t:Tmp} {ps:Array Tmp} {assign body:Code} {f:FuncId} {caps:Array Value} {rs:List Nat} {xs:List (Array Value)} {m0:List (Nat×Blk)} (asd:List Nat) (hGF:zbo G) (hG:C.G=G) (h0:C.hp0=hpL G m0) (hY:C.Y=none) (hg:s.ts t=.func (.func f) #[] caps) (hit:IterK P G f caps s.hp rs xs)
  (hxs:∀ x∈xs,x.size=ps.size/\∀ v∈x,za0 v=true) (hps:∀ p∈ps,p<n) (l l2:List (Nat×Value)) (m:Nat->List (Nat×Blk)) (B:Nat) (N:Nat) (hN:N<=xs.length) (hB:100<=B)
  (hras:∀ k∈rs,k∈asd) (has:∀ k∈asd,100<=k/\dom s.hp k/\k<B) (hcl:∀ k∈asd,∀ b,s.hp k=some b->b.ids λq=>q∈asd)
  (hl:∀ p∈l,s.ts p.1=p.2) (hl2:∀ p∈l2,s.ts p.1=p.2/\zap (λq=>q∈asd) p.2)
  (hm0:∀ p∈m 0,s.hp p.1=some p.2) (hm:∀ i,i<=N->(∀ p∈l,zap (dom (hpL G (m i))) p.2)/\∀ p∈m i,100<=p.1/\p.1<B/\p.1∉asd/\p.2.ids (dom (hpL G (m i))))
  (hk:∀ p∈m0,p.1∈asd\/(100<=p.1/\hpL G (m 0) p.1=s.hp p.1/\∀ i,i<=N->dom (hpL G (m i)) p.1))
  (rounds:∀ i x,i<N->xs[i]? = some x->∀ (C1:Ctx) (j:Nat),C1.G=G->C1.hp0=hpL G (m i)->C1.Y=none->GW P C1 n [] (some j) assign ⟨zav ps.toList x.toList (tsL l),hpL G (m i),B,0⟩
   (zbx (λs1=>∀ C2:Ctx,C2.G=G->C2.hp0=hpL G (m i)->C2.Y=none->zfs C2 j->GW P C2 n [] (some j) body s1 (zbx (λs2=>∀ p∈m (i+1),s2.hp p.1=some p.2) (λ_ _=>False))) (λ_ _=>False)))
  (fin:(N=xs.length/\K .normal ⟨tsL (l++l2),zb3 asd s.hp (hpL G (m N)),B,s.yc⟩)\/∃ x,xs[N]? = some x/\∀ (C1:Ctx) (j:Nat),C1.G=G->C1.hp0=hpL G (m N)->C1.Y=none->GW P C1 n [] (some j) assign ⟨zav ps.toList x.toList (tsL l),hpL G (m N),B,0⟩
    (zbx (λs1=>∀ C2:Ctx,C2.G=G->C2.hp0=hpL G (m N)->C2.Y=none->zfs C2 j->GW P C2 n [] (some j) body s1 (λe s2=>(zbk e).isSome=true/\(∀ p∈l,zap (dom s2.hp) p.2)/\(∀ k∈asd,s2.hp k=none/\k<s2.B)/\K e ⟨tsL (l++l2),zb3 asd s.hp s2.hp,s2.B,s.yc⟩)) (λ_ _=>False))) :
  GW P C n d none (.rangeFunc (.tmp t) ps assign body) s K:=by
 have asn:∀ i,i<=N->∀ k∈asd,hpL G (m i) k=none:=λi hi k hk1=>by
  cases hb:hpL G (m i) k with
  | none=>rfl
  | some b =>
   rcases za5 hb with h|h
   ·exact absurd hk1 ((hm i hi).2 _ h).2.2.1
   ·have:=(hGF k b h).1;have:=(has k hk1).1;omega
 have keepW:∀ i,i<=N->∀ C0:Ctx,C0.G=C.G->(C0.hp0=λk=>if k∈asd then none else C.hp0 k)->∀ s2:GS,s2.yc=s.yc->(∀ p∈m i,s2.hp p.1=some p.2)->s2.ts=tsL l->WeakR C0 (λk=>k) s2 ⟨tsL l,hpL G (m i),B,s.yc⟩:=λi hi C0 c1 c2 s2 hyc hs ht=>by
  refine ⟨λu=>?_,λk b hb h1=>⟨?_,h1⟩,λk b hb=>?_,λk q _ _ e=>e,λ_ _=>rfl,λk b _ _=>Blk.rn_id b,λk h1 hd=>⟨?_,rfl⟩,λk h1=>?_,hyc.symm,λx hx=>?_,hB⟩
  ·rcases zd7 (l:=l) (t:=u) with h|h
   ·exact .inl h
   ·by_cases hj:tsL l u=zcm
    ·exact .inl hj
    ·exact .inr ⟨by rw [ht,z7o],by rw [ht];exact hj,(hm i hi).1 _ h⟩
  ·rw [Blk.rn_id]
   rcases za5 hb with h|h
   ·exact hs _ h
   ·have:=(hGF k b h).1;omega
  ·rcases za5 hb with h|h
   ·exact ((hm i hi).2 _ h).2.2.2
   ·exact Blk.flat_ids (hGF k b h).2
  ·have hna:k∉asd:=λhm1=>by
    have h2:C0.hp0 k≠none:=hd
    rw [c2] at h2;exact h2 (if_pos hm1)
   have h2:C0.hp0 k≠none:=hd
   rw [c2] at h2
   simp only [if_neg hna] at h2
   rw [h0] at h2
   cases hb:hpL G m0 k with
   | none=>exact absurd hb h2
   | some b =>
    rcases za5 hb with h|h
    ·rcases hk _ h with h3|h3
     ·exact absurd h3 hna
     ·exact h3.2.2 i hi
    ·have:=(hGF k b h).1;omega
  ·rw [c1,hG];exact zbc (λp hp=>((hm i hi).2 p hp).1) h1
  ·dsimp only at hx |-
   cases hb:hpL G (m i) x with
   | none=>rfl
   | some b =>
    rcases za5 hb with h|h
    ·have:=((hm i hi).2 _ h).2.1;simp at this;omega
    ·have:=(hGF x b h).1;omega
 refine zlf (rs:=rs) (xs:=xs) asd hY hg (hG.symm▸hit) hxs hps (tsL l) (tsL (l++l2)) (λi h=>h=hpL G (m i)) (hpS:=hpL G (m 0)) B N hN hras (λk hk1=>⟨(has k hk1).1,(has k hk1).2.1⟩) (λk hk b hb=>Blk.ids_mono (λq hq=>.inl hq) (hcl k hk b hb)) (λC0 c1 c2=>?_) rfl (asn 0 (Nat.zero_le _)) (λu=>?_) (λi x hq hi hx hI C1 j c1 c2 c3=>?_) ?_
 ·refine ⟨λu=>?_,λk h1=>?_,(keepW 0 (Nat.zero_le _) C0 c1 c2 ⟨tsL l,s.hp,s.B,s.yc⟩ rfl hm0 rfl).ids,λk h1 hd=>?_,(keepW 0 (Nat.zero_le _) C0 c1 c2 ⟨tsL l,s.hp,s.B,s.yc⟩ rfl hm0 rfl).glob,rfl,(keepW 0 (Nat.zero_le _) C0 c1 c2 ⟨tsL l,s.hp,s.B,s.yc⟩ rfl hm0 rfl).free,hB⟩
  ·rcases zd7 (l:=l) (t:=u) with h|h
   ·exact .inl h
   ·exact .inr ⟨(hl _ h).symm,(hm 0 (Nat.zero_le _)).1 _ h⟩
  ·dsimp only
   cases hb:hpL G (m 0) k with
   | none=>exact .inl rfl
   | some b =>
    rcases za5 hb with h|h
    ·exact .inr (hm0 _ h).symm
    ·have:=(hGF k b h).1;omega
  ·have h2:C0.hp0 k≠none:=hd
   rw [c2] at h2
   have hna:k∉asd:=λhm1=>h2 (if_pos hm1)
   simp only [if_neg hna] at h2
   rw [h0] at h2
   cases hb:hpL G m0 k with
   | none=>exact absurd hb h2
   | some b =>
    rcases za5 hb with h|h
    ·rcases hk _ h with h3|h3
     ·exact absurd h3 hna
     ·exact h3.2.1
    ·have:=(hGF k b h).1;omega
 ·rcases jb6 (l:=l) (l2:=l2) (u:=u) with h|h
  ·exact .inl h
  ·exact .inr ⟨(hl2 _ h).1.symm,by rw [(hl2 _ h).1];exact (hl2 _ h).2⟩
 ·subst hI
  refine zcb (rounds i x hi hx C1 j (c1.trans hG) c2 c3) λe s1 hs=>?_
  cases e with
  | normal =>
   intro C2 q1 q2 q3 q4
   refine zcb (hs C2 (q1.trans hG) q2 q3 q4) λe s2 hs2=>?_
   cases e with
   | normal=>exact ⟨λk=>k,_,λC0 z1 z2=>keepW (i+1) hi C0 z1 z2 _ rfl hs2 rfl,rfl⟩
   | _=>exact hs2.elim
  | _=>exact hs.elim
 ·rcases fin with ⟨f1,f2⟩|⟨x,f1,f2⟩
  ·exact .inl ⟨f1,λhq hI=>by subst hI;exact ⟨λk hk1=>⟨asn N (Nat.le_refl _) k hk1,(has k hk1).2.2⟩,f2⟩⟩
  ·refine .inr ⟨x,f1,λhq hI C1 j c1 c2 c3=>?_⟩
   subst hI
   refine zcb (f2 C1 j (c1.trans hG) c2 c3) λe s1 hs=>?_
   cases e with
   | normal =>
    intro C2 q1 q2 q3 q4
    refine zcb (hs C2 (q1.trans hG) q2 q3 q4) λe s2 hs2=>⟨hs2.1,λu=>?_,hs2.2.2.1,hs2.2.2.2⟩
    rcases zd7 (l:=l) (t:=u) with h|h
    ·rw [h];simp [zcm,zap,zax,zah,zaj]
    ·exact hs2.2.1 _ h
   | _=>exact hs.elim
theorem zgf {t:Tmp} {ps:Array Tmp} {assign body:Code} {f:FuncId} {caps:Array Value} {rs:List Nat} {xs:List (Array Value)} {m0:List (Nat×Blk)} (asd:List Nat) (hGF:zbo G) (hG:C.G=G) (h0:C.hp0=hpL G m0) (hY:C.Y=none) (hg:s.ts t=.func (.func f) #[] caps) (hit:IterK P G f caps s.hp rs xs)
  (hxs:∀ x∈xs,x.size=ps.size/\∀ v∈x,za0 v=true) (hps:∀ p∈ps,p<n) (l l2:List (Nat×Value)) (m:Nat->List (Nat×Blk)) (B:Nat) (N:Nat) (hN:N<=xs.length) (hB:100<=B)
  (hras:∀ k∈rs,k∈asd) (has:∀ k∈asd,100<=k/\dom s.hp k/\k<B) (hcl:∀ k∈asd,∀ b,s.hp k=some b->b.ids λq=>q∈asd)
  (hl:∀ p∈l,s.ts p.1=p.2) (hl2:∀ p∈l2,s.ts p.1=p.2/\zap (λq=>q∈asd) p.2)
  (hm0:∀ p∈m 0,s.hp p.1=some p.2) (hm:∀ i,i<=N->(∀ p∈l,zap (dom (hpL G (m i))) p.2)/\∀ p∈m i,100<=p.1/\p.1<B/\p.1∉asd/\p.2.ids (dom (hpL G (m i))))
  (hk:∀ p∈m0,p.1∈asd\/(100<=p.1/\hpL G (m 0) p.1=s.hp p.1/\∀ i,i<=N->dom (hpL G (m i)) p.1))
  (rounds:∀ i x,i<N->xs[i]? = some x->∀ (C1:Ctx) (j:Nat),C1.G=G->C1.hp0=hpL G (m i)->C1.Y=none->GW P C1 n [] (some j) assign ⟨zav ps.toList x.toList (tsL l),hpL G (m i),B,0⟩
   (zbx (λs1=>∀ C2:Ctx,C2.G=G->C2.hp0=hpL G (m i)->C2.Y=none->GW P C2 n [] (some j) body s1 (zbx (λs2=>∀ p∈m (i+1),s2.hp p.1=some p.2) (λ_ _=>False))) (λ_ _=>False)))
  (fin:(N=xs.length/\K .normal ⟨tsL (l++l2),zb3 asd s.hp (hpL G (m N)),B,s.yc⟩)\/∃ x,xs[N]? = some x/\∀ (C1:Ctx) (j:Nat),C1.G=G->C1.hp0=hpL G (m N)->C1.Y=none->GW P C1 n [] (some j) assign ⟨zav ps.toList x.toList (tsL l),hpL G (m N),B,0⟩
    (zbx (λs1=>∀ C2:Ctx,C2.G=G->C2.hp0=hpL G (m N)->C2.Y=none->GW P C2 n [] (some j) body s1 (λe s2=>(zbk e).isSome=true/\(∀ p∈l,zap (dom s2.hp) p.2)/\(∀ k∈asd,s2.hp k=none/\k<s2.B)/\K e ⟨tsL (l++l2),zb3 asd s.hp s2.hp,s2.B,s.yc⟩)) (λ_ _=>False))) :
  GW P C n d none (.rangeFunc (.tmp t) ps assign body) s K :=
 zg8 asd hGF hG h0 hY hg hit hxs hps l l2 m B N hN hB hras has hcl hl hl2 hm0 hm hk (λi x h1 h2 C1 j h4 h5 h6=>zcb (rounds i x h1 h2 C1 j h4 h5 h6) λe s1 h=>by
   cases e<;>first|exact λC2 k1 k2 k3 _=>h C2 k1 k2 k3|exact h)
  (fin.imp id λ⟨x,hx,h⟩=>⟨x,hx,λC1 j h4 h5 h6=>zcb (h C1 j h4 h5 h6) λe s1 h=>by
   cases e<;>first|exact λC2 k1 k2 k3 _=>h C2 k1 k2 k3|exact h⟩)
end
end Go.Gy
namespace Go.Gy
open Go Go.RowKit
theorem kpS {G : Hp} {m : List (Nat × Blk)} (hGF : zbo G) {hp : Hp} (h1 : ∀ p ∈ m, hp p.1 = hpL G m p.1 := by simp) (h2 : ∀ k, k < 100 -> hp k = hpL G m k := by (intro k hk; first | rfl | (simp (disch := omega) only [zb3, List.mem_cons, List.not_mem_nil, or_false, zab, zaq, zaw, if_neg, zbi] <;> done))) : ∀ k, dom (hpL G m) k -> hp k = hpL G m k := zb4 hGF h1 h2
theorem kpT {G : Hp} {m : List (Nat × Blk)} (hGF : zbo G) {hp : Hp} (h1 : ∀ p ∈ m, hp p.1 = hpL G m p.1 := by (intro p hp; have hpb := hT.ok.big p hp; first | rfl | (simp (disch := omega) only [zb3, zab, zaq, zaw, if_neg, zbi, List.cons_append, List.nil_append] <;> done))) (h2 : ∀ k, k < 100 -> hp k = hpL G m k := by (intro k hk; first | exact hLow k hk | (simp (disch := omega) only [hLow, zb3, List.mem_cons, List.not_mem_nil, or_false, zab, zaq, zaw, if_neg, zbi, List.cons_append, List.nil_append] <;> done))) : ∀ k, dom (hpL G m) k -> hp k = hpL G m k := zb4 hGF h1 h2
theorem zdd {L : List (Nat × Blk)} {hp : Hp} (h : ∀ p ∈ L, hp p.1 = some p.2 := by (intro p hp; have hpb := hT.ok.big p hp; (try dsimp only); simp (disch := omega) only [zb3, zab, zaq, zaw, if_neg, zbi, List.cons_append, List.nil_append]; first | exact hT.mem p hp | exact cL p hp)) : ∀ p ∈ L, hp p.1 = some p.2 := h
end Go.Gy
namespace Go.Gy
open Go Go.RowKit
@[simp] theorem rg1:Array.range 1=#[0]:=rfl
@[simp] theorem rg2:Array.range 2=#[0,1]:=rfl
@[simp] theorem rg3:Array.range 3=#[0,1,2]:=rfl
@[simp] theorem rg4:Array.range 4=#[0,1,2,3]:=rfl
@[simp] theorem rg5:Array.range 5=#[0,1,2,3,4]:=rfl
@[simp] theorem rg6:Array.range 6=#[0,1,2,3,4,5]:=rfl
@[simp] theorem jt5:Array.range 20=#[0,1,2,3,4,5,6,7,8,9,10,11,12,13,14,15,16,17,18,19]:=rfl
@[simp] theorem jt6:Array.range 36=#[0,1,2,3,4,5,6,7,8,9,10,11,12,13,14,15,16,17,18,19,20,21,22,23,24,25,26,27,28,29,30,31,32,33,34,35]:=rfl
section
variable {P:Program} {G:Hp} {V:XV} {yc nk:Nat} {ts:Nat->Value} {hp:Hp} {C:Eff->Prop} {dst:Option Tmp} {type:TypeId} {pos:String} {after:Array Edge} {guard:Option (Nat×Bool)}
def bsZ (e len m nk:Nat) (ps:List (Nat×Value)) (z:Option Value) (C:Eff->Prop):Prop :=
 match z with
 | some z=>za4 z=true/\za0 z=true/\0<len*m/\len*m<=16777216/\bsX (zfz (.inr m) ((Array.range (len*m)).map (z.cells[·%z.cells.size]!)) ps) e len nk C
 | none=>False
@[simp] theorem jjj (e len m nk:Nat) (ps:List (Nat×Value)) (z:Value) (C:Eff->Prop):bsZ e len m nk ps (some z) C=(za4 z=true/\za0 z=true/\0<len*m/\len*m<=16777216/\bsX (zfz (.inr m) ((Array.range (len*m)).map (z.cells[·%z.cells.size]!)) ps) e len nk C):=rfl
def bsM (P:Program) (e len nk:Nat) (ps:List (Nat×Value)) (m:Option Nat) (C:Eff->Prop):Prop :=
 match m with
 | some m=>bsZ e len m nk ps (zbm P e) C
 | none=>False
@[simp] theorem jjg (P:Program) (e len m nk:Nat) (ps:List (Nat×Value)) (C:Eff->Prop):bsM P e len nk ps (some m) C=bsZ e len m nk ps (zbm P e) C:=rfl
def bsU (P:Program) (len nk:Nat) (ps:List (Nat×Value)) (u:Option TypeDesc) (C:Eff->Prop):Prop :=
 match u with
 | some (.slice e)=>bsM P e len nk ps (zaz P e) C
 | _=>False
@[simp] theorem jjh (P:Program) (e len nk:Nat) (ps:List (Nat×Value)) (C:Eff->Prop):bsU P len nk ps (some (.slice e)) C=bsM P e len nk ps (zaz P e) C:=rfl
@[simp ↓] theorem z1p (T:TypeId) (len:Nat) (parts:Array (Nat×Operand)):opX P G V yc ⟨dst,.buildSlice T len parts,type,pos,after,guard⟩ ts hp nk C =
  ((∀ p∈parts.toList,okX ts hp p.2/\za4 (gev ts p.2)=true)/\bsU P len nk (zd0 ts parts) (P.underlying T) C):=by
 unfold opX bsU
 simp only
 cases hu:P.underlying T with
 | none=>rfl
 | some u =>
  cases u with
  | slice e =>
   simp only [bsM]
   cases hm:zaz P e with
   | none=>rfl
   | some m =>
    simp only [bsZ]
    cases hz:zbm P e with
    | none=>rfl
    | some z =>
     simp only
     cases hf:zfz (.inr m) ((Array.range (len*m)).map (z.cells[·%z.cells.size]!)) (zd0 ts parts)<;>rfl
  | _=>rfl
@[simp] theorem jnc (e m:Nat) (z:Value) (b:Nat) (l:Int) (w:Value) (C:Eff->Prop):msZ P e m nk (some z) (some b) (.int .i64 l) w C=(w=.int .i64 l/\za4 z=true/\za0 z=true/\(0<l/\l<=4096)/\b<=4096/\0<m/\C ⟨.slice (some ⟨nk,0,none⟩) l.toNat l.toNat,[],[],[(nk,⟨(Array.range (l.toNat*m)).map (z.cells[·%z.cells.size]!),e⟩)],none,false⟩):=rfl
@[simp] theorem jkq (e m:Nat) (v w:Value) (C:Eff->Prop):msM P e nk (some m) v w C=msZ P e m nk (zbm P e) (tyB P e) v w C:=rfl
@[simp] theorem jg1 (e:Nat) (v w:Value) (C:Eff->Prop):msU P nk (some (.slice e)) v w C=msM P e nk (zaz P e) v w C:=rfl
@[simp ↓] theorem z4t (T:TypeId) (x y:Operand):opX P G V yc ⟨dst,.makeSlice T x y,type,pos,after,guard⟩ ts hp nk C=(okX ts hp x/\okX ts hp y/\msU P nk (P.underlying T) (gev ts x) (gev ts y) C):=nr rfl
end
end Go.Gy
namespace Go.Gy
open Go Go.RowKit Go.Proofs Go.Proofs.Tryz
def vf (x0 x1 x2:Int):Nat->Int
 | 0=>x0
 | 1=>x1
 | _=>x2
def vf2 (x0 x1 x2 y0 y1 y2:Int):Nat->Int
 | 0=>x0
 | 1=>x1
 | 2=>x2
 | 3=>y0
 | 4=>y1
 | _=>y2
def xsV (N:Nat) (f:Nat->Int):List (Array Value):=(List.range N).map λj=>#[.int .i64 ((j%3:Nat):Int),.int .i64 (f j)]
theorem zmi (N:Nat) (f:Nat->Int) (i:Nat) (h:i<N):(xsV N f)[i]? = some #[.int .i64 ((i%3:Nat):Int),.int .i64 (f i)]:=by simp [xsV,h]
theorem zgs (b k m c:Nat) (cs:Array Value) (hcs:∀ x∈cs,zbf x=true) (hb:100<=b) (hb2:b<100000) (hk:100<=k) (hbk:b≠k):Fun prog G0 125 #[.slice (some ⟨b,0,none⟩) m c] (hpL G0 [(b,⟨cs,.ty 70⟩)]) [b] (.new (.func (.func 145) #[] #[.pointer (some ⟨k,0,none⟩)]) [(k,⟨#[.slice (some ⟨b,0,none⟩) m c],.ty 167⟩)]):=by
 have e0:rst (hpL G0 [(b,⟨cs,.ty 70⟩)]) [b]=hpL G0 [(b,⟨cs,.ty 70⟩)]:=zf3 G0F (by simp)
 have hdom:∀ j,dom (hpL G0 [(b,⟨cs,.ty 70⟩)]) j->j=b\/j<100:=λj hj=>by
  unfold dom at hj
  cases hq:hpL G0 [(b,⟨cs,.ty 70⟩)] j with
  | none=>exact absurd hq hj
  | some q =>
   rcases za5 hq with h|h
   ·simp at h;exact .inl h.1
   ·exact .inr (G0F j q h).1
 have hdb:dom (hpL G0 [(b,⟨cs,.ty 70⟩)]) b:=by unfold dom;simp
 refine zth (B:=100000) (λj=>if j=k then 100000 else j) G0F (λj hj=>zbc (by simp;omega) hj) func125 rfl call125 ?_ ?_ ?_ (by simp [ntmps125]) (by omega) ?_ (λj hj=>?_) ?_ ?_ ?_ ?_
 ·rw [e0];simp [zap,zax,zah,zaj];exact hdb
 ·rw [e0]
  intro j q hq
  rcases za5 hq with h|h
  ·simp at h;rw [h.2];exact Blk.flat_ids hcs
  ·exact zeg _ _ _ h
 ·refine ⟨by simp [zap,zax,zah,zaj,zc7,zaa],by simp [zaa];omega,λq b c h1 h2=>?_⟩
  simp at h1 h2
  rw [h1.2,h2.2]
 ·rw [e0]
  intro x hx
  simp [show ¬x=b by omega,show 100<=x by omega]
 ·rw [e0] at hj
  rcases hdom j hj with h|h
  ·rw [if_neg (by omega)]
  ·rw [if_neg (by omega)]
 ·rw [e0]
  intro p hp
  simp at hp
  subst hp
  refine ⟨λh=>?_,by simp⟩
  rcases hdom _ h with h|h<;>simp at h<;>omega
 ·simp
 ·rw [e0];simp [zah,zaj];exact hdb
 ·intro C hC hC0 hY
  rw [e0]
  have hbB:¬b=100000:=by omega
  have hBb:¬100000=b:=by omega
  repeat' first|refine gwZ ?_|(refine gwX ?_;intro Q hQ _;simp [hC,hY,hbB,hBb,hbk];refine gwq hQ ?_)|fail
  refine ⟨.inr trivial,?_⟩
  simp [results125,ren,zay,zak,zan]
  intro j hj
  rcases hdom j hj with h|h
  ·have:¬j=100000:=by omega
   simp [this]
  ·have:¬j=100000:=by omega
   simp [this]
def ziw (x0 x1 x2:Int):List (Nat×Blk):=[(100,⟨#[.slice (some ⟨108,0,none⟩) 1 1],.ty 167⟩),(108,⟨#[.int .i64 x0,.int .i64 x1,.int .i64 x2],.ty 70⟩)]
abbrev pv1 (x0 x1 x2:Int):Hp:=hpL G0 (ziw x0 x1 x2)
theorem zfn (x0 x1 x2:Int):IterK prog G0 145 #[.pointer (some ⟨100,0,none⟩)] (pv1 x0 x1 x2) [100,108] (xsV 3 (vf x0 x1 x2)):=by
 have hL:LOk (ziw x0 x1 x2) 200:=⟨by simp [ziw],by simp [ziw,zaa],by simp [ziw,zad,zah,zaj,zaa]⟩
 have hlt:∀ k,dom (hpL G0 (ziw x0 x1 x2)) k->k<200:=λk hk=>Classical.byContradiction λh1=>hk (hL.free G0F (by omega) k (by omega))
 refine zdm (m:=ziw x0 x1 x2) (B:=200) (v:=.tuple #[]) G0F func145 rfl call145 hL ?_ (by simp [ntmps145]) (by omega) ?_
 ·simp [zap,zax,zah,zaj,ziw,zaa]
 ·intro C l stop hC hC0 hY
  have exs:xsV 3 (vf x0 x1 x2)=[#[.int .i64 0,.int .i64 x0],#[.int .i64 1,.int .i64 x1],#[.int .i64 2,.int .i64 x2]]:=rfl
  rw [exs] at hY |-
  by_cases h3:3<=stop
  ·have q0:(0 != stop)=true:=by simp;omega
   have q1:(1 != stop)=true:=by simp;omega
   have q2:(2 != stop)=true:=by simp;omega
   have l1:1<=stop:=by omega
   have l2:2<=stop:=by omega
   repeat' first|refine zal ?_|refine zat ?_|refine gwZ ?_|(refine gwX ?_;intro Q hQ _;simp [hC,hY,ziw,q0,q1,q2,l1,l2,h3];refine gwq hQ ?_)|fail
   refine ⟨by simp,by simp [results145],by first|(simp;omega)|omega,λk hk=>?_⟩
   have hk:=hlt k hk
   simp (disch:=omega) only [zab]
   rfl
  ·have:stop=0\/stop=1\/stop=2:=by omega
   rcases this with rfl|rfl|rfl
   all_goals
    repeat' first|refine zal ?_|refine zat ?_|refine gwZ ?_|(refine gwX ?_;intro Q hQ _;simp [hC,hY,ziw];refine gwq hQ ?_)|fail
   all_goals
    refine ⟨by simp,by simp [results145],by simp,λk hk=>?_⟩
    have hk:=hlt k hk
    simp (disch:=omega) only [zab]
    rfl
theorem zwj (x0 x1 x2:Int):zhp prog G0 145 #[.pointer (some ⟨100,0,none⟩)] (pv1 x0 x1 x2) [100,108] (xsV 3 (vf x0 x1 x2)):=(zfn x0 x1 x2).g
def z1r (x0 x1 x2 y0 y1 y2:Int):List (Nat×Blk):=[(100,⟨#[.slice (some ⟨108,0,none⟩) 2 2],.ty 167⟩),(108,⟨#[.int .i64 x0,.int .i64 x1,.int .i64 x2,.int .i64 y0,.int .i64 y1,.int .i64 y2],.ty 70⟩)]
abbrev pv2 (x0 x1 x2 y0 y1 y2:Int):Hp:=hpL G0 (z1r x0 x1 x2 y0 y1 y2)
theorem zr1 (x0 x1 x2 y0 y1 y2:Int):IterK prog G0 145 #[.pointer (some ⟨100,0,none⟩)] (pv2 x0 x1 x2 y0 y1 y2) [100,108] (xsV 6 (vf2 x0 x1 x2 y0 y1 y2)):=by
 have hL:LOk (z1r x0 x1 x2 y0 y1 y2) 200:=⟨by simp [z1r],by simp [z1r,zaa],by simp [z1r,zad,zah,zaj,zaa]⟩
 have hlt:∀ k,dom (hpL G0 (z1r x0 x1 x2 y0 y1 y2)) k->k<200:=λk hk=>Classical.byContradiction λh1=>hk (hL.free G0F (by omega) k (by omega))
 refine zdm (m:=z1r x0 x1 x2 y0 y1 y2) (B:=200) (v:=.tuple #[]) G0F func145 rfl call145 hL ?_ (by simp [ntmps145]) (by omega) ?_
 ·simp [zap,zax,zah,zaj,z1r,zaa]
 ·intro C l stop hC hC0 hY
  have exs:xsV 6 (vf2 x0 x1 x2 y0 y1 y2)=[#[.int .i64 0,.int .i64 x0],#[.int .i64 1,.int .i64 x1],#[.int .i64 2,.int .i64 x2],#[.int .i64 0,.int .i64 y0],#[.int .i64 1,.int .i64 y1],#[.int .i64 2,.int .i64 y2]]:=rfl
  rw [exs] at hY |-
  by_cases h6:6<=stop
  ·have q0:(0 != stop)=true:=by simp;omega
   have q1:(1 != stop)=true:=by simp;omega
   have q2:(2 != stop)=true:=by simp;omega
   have q3:(3 != stop)=true:=by simp;omega
   have q4:(4 != stop)=true:=by simp;omega
   have q5:(5 != stop)=true:=by simp;omega
   have l1:1<=stop:=by omega
   have l2:2<=stop:=by omega
   have l3:3<=stop:=by omega
   have l4:4<=stop:=by omega
   have l5:5<=stop:=by omega
   repeat' first|refine zal ?_|refine zat ?_|refine gwZ ?_|(refine gwX ?_;intro Q hQ _;simp [hC,hY,z1r,q0,q1,q2,q3,q4,q5,l1,l2,l3,l4,l5,h6];refine gwq hQ ?_)|fail
   refine ⟨by simp,by simp [results145],by first|(simp;omega)|omega,λk hk=>?_⟩
   have hk:=hlt k hk
   simp (disch:=omega) only [zab]
   rfl
  ·have:stop=0\/stop=1\/stop=2\/stop=3\/stop=4\/stop=5:=by omega
   rcases this with rfl|rfl|rfl|rfl|rfl|rfl
   all_goals
    repeat' first|refine zal ?_|refine zat ?_|refine gwZ ?_|(refine gwX ?_;intro Q hQ _;simp [hC,hY,z1r];refine gwq hQ ?_)|fail
   all_goals
    refine ⟨by simp,by simp [results145],by simp,λk hk=>?_⟩
    have hk:=hlt k hk
    simp (disch:=omega) only [zab]
    rfl

def jb5 (A B:Int) (i:Nat):GS :=
 ⟨tsL [(2,.pointer (some ⟨200,0,none⟩)),(3,.pointer (some ⟨208,0,none⟩)),(4,.pointer (some ⟨216,0,none⟩)),(5,.pointer (some ⟨224,0,none⟩)),(6,.int .i64 i)],
 hpL G0 [(200,⟨fa 8 .u64 (di A),.ty 96⟩),(208,⟨fa 8 .u64 (di B),.ty 96⟩),(216,⟨fa 16 .u64 λ_=>0,.ty 149⟩),(224,⟨fa 16 .u64 (di (ze9 A B i)),.ty 149⟩)],300,0⟩
def z0s (A B:Int) (i k:Nat):GS :=
 ⟨tsL [(2,.pointer (some ⟨200,0,none⟩)),(3,.pointer (some ⟨208,0,none⟩)),(4,.pointer (some ⟨216,0,none⟩)),(5,.pointer (some ⟨224,0,none⟩)),(6,.int .i64 i),(7,.int .u64 (zl3 A B i k)),(8,.int .i64 k)],
 hpL G0 [(200,⟨fa 8 .u64 (di A),.ty 96⟩),(208,⟨fa 8 .u64 (di B),.ty 96⟩),(216,⟨fa 16 .u64 λ_=>0,.ty 149⟩),(224,⟨fa 16 .u64 (zvy A B i k),.ty 149⟩)],300,0⟩
theorem bm {x:Int} (h0:-9223372036854775808<=x) (h1:x<9223372036854775808):Int.bmod x 18446744073709551616=x:=by
 rw [Int.bmod_def];split<;>omega
theorem zwh (A B:Int) (h0:0<=B) (h1:B<2^(32*8)):Ret prog G0 114 #[dg A,dg B] (.agg (fa 16 .u64 (di (ze9 A B 8)))):=by
 refine zas G0F func114 rfl call114 (by simp) (by simp) (by simp [ntmps114]) ?_
 intro C hC hC0 hY
 repeat' first|refine gwZ ?_|refine gwW ?_|refine gwC ?_ ?_<;>intro hb
 refine zbt 8 (jb5 A B) ?_ ?_ ?_
 ·refine za3 _ 300 hC G0F (m0:=[]) hC0 (by omega) ?_ ?_ ?_
  ·simp [zap,zax,zah,zaj,dom]
  ·simp [Blk.ids,zah,zaj,zlr,jl6,ze9,Int.emod_one]
  ·simp
 ·intro i hi
  have hi':(i:Int)<8:=by omega
  have hz:(0:Int)<=i:=by omega
  have hs:Int.bmod ((i:Int)+1) 18446744073709551616=((i+1:Nat):Int):=by rw [bm (by omega) (by omega)];rfl
  unfold jb5
  repeat' first|refine gwZ ?_|(refine gwX ?_;intro Q hQ _;simp [hC,hY,hi,hi',hz,hs,zdi];refine gwq hQ ?_)|refine gwC ?_ ?_<;>intro hb
  ·-- this digit is 0: nothing comes
   have hd:di A i=0:=by simpa using hb
   refine za3 _ 300 hC G0F (m0:=[]) hC0 (by omega) ?_ ?_ ?_
   ·simp [zap,zax,zah,zaj,dom,hs]
   ·have e:fa 16 .u64 (di (ze9 A B (i+1)))=fa 16 .u64 (di (ze9 A B i)):=by rw [zhz,hd];simp
    simp [e,zco]
   ·simp
  ·refine zbt 8 (z0s A B i) ?_ ?_ ?_
   ·refine za3 _ 300 hC G0F (m0:=[]) hC0 (by omega) ?_ ?_ ?_
    ·simp [zap,zax,zah,zaj,dom,zzl]
    ·have e:fa 16 .u64 (zvy A B i 0)=fa 16 .u64 (di (ze9 A B i)):=zca λj _=>by unfold zvy;rw [if_neg (by omega)]
     simp [e,zco]
    ·simp
   ·intro k hk
    have hk':(k:Int)<8:=by omega
    have hkz:(0:Int)<=k:=by omega
    have hs2:Int.bmod ((k:Int)+1) 18446744073709551616=((k+1:Nat):Int):=by rw [bm (by omega) (by omega)];rfl
    have hik:Int.bmod ((i:Int)+k) 18446744073709551616=((i+k:Nat):Int):=by rw [bm (by omega) (by omega)];rfl
    have hik2:i+k<16:=by omega
    have hik3:(i:Int)+k<16:=by omega
    have hik4:(0:Int)<=(i:Int)+k:=by omega
    have hik5:((i:Int)+k).toNat=i+k:=by omega
    have hik6:(i:Int)+k<=15:=by omega
    have hik7:i+k<=15:=by omega
    unfold z0s
    repeat' first|refine gwZ ?_|(refine gwX ?_;intro Q hQ _;simp [hC,hY,hi,hi',hz,hk,hk',hkz,hik,hik2,hik3,hik4,hik5,hik6,hik7,hs2,zeh];refine gwq hQ ?_)|refine gwC ?_ ?_<;>intro hb
    refine za3 _ 300 hC G0F (m0:=[]) hC0 (by omega) ?_ ?_ ?_
    ·simp [zap,zax,zah,zaj,dom,hs2,jrr]
    ·have e:fa 16 .u64 (upd (zvy A B i k) (i+k) (di (ze9 A B (i+1)) (i+k)))=fa 16 .u64 (zvy A B i (k+1)):=zca λj _=>zzq A B i k j
     simp [zco,jrt,e]
    ·simp
   ·have hi8:Int.bmod ((i:Int)+8) 18446744073709551616=(i:Int)+8:=bm (by omega) (by omega)
    have hi9:(0:Int)<=(i:Int)+8:=by omega
    have hi10:((i:Int)+8).toNat=i+8:=by omega
    have hi11:(i:Int)+8<16:=by omega
    have hi12:(i:Int)<=7:=by omega
    have hi14:i<=7:=by omega
    have hi13:i+8<16:=by omega
    unfold z0s
    repeat' first|refine gwZ ?_|(refine gwX ?_;intro Q hQ _;simp [hC,hY,hi,hi',hz,hs,hi8,hi9,hi10,hi11,hi12,hi13,hi14,zeh];refine gwq hQ ?_)|refine gwC ?_ ?_<;>intro hb
    refine za3 _ 300 hC G0F (m0:=[]) hC0 (by omega) ?_ ?_ ?_
    ·simp [zap,zax,zah,zaj,dom,hs]
    ·have e:fa 16 .u64 (upd (zvy A B i 8) (i+8) (zl3 A B i 8))=fa 16 .u64 (di (ze9 A B (i+1))):=zca λj _=>z4x A B i h0 h1 j
     simp [zco,e]
    ·simp
 ·unfold jb5
  repeat' first|refine gwZ ?_|refine gwW ?_|refine gwC ?_ ?_<;>intro hb
  refine ⟨.inr trivial,?_⟩
  simp [results114]
def um (z:Int):Int:=if sz z<0 then -sz z else sz z
theorem jod (z:Int):-57896044618658097711785492504343953926634992332820282019728792003956564819968<=sz z/\sz z<57896044618658097711785492504343953926634992332820282019728792003956564819968:=by
 unfold sz;rw [Int.bmod_def];constructor<;>split<;>omega
theorem zwi (z:Int):0<=um z/\um z<=57896044618658097711785492504343953926634992332820282019728792003956564819968:=by
 have:=jod z;unfold um;split<;>omega
theorem z6j (z y:Int) (k:Nat) (h:z%115792089237316195423570985008687907853269984665640564039457584007913129639936=y%115792089237316195423570985008687907853269984665640564039457584007913129639936) (hk:k<8):di z k=di y k:=by
 have:k=0\/k=1\/k=2\/k=3\/k=4\/k=5\/k=6\/k=7:=by omega
 rcases this with rfl|rfl|rfl|rfl|rfl|rfl|rfl|rfl<;>simp only [di]<;>omega
theorem zpx (z:Int):sz z%115792089237316195423570985008687907853269984665640564039457584007913129639936=z%115792089237316195423570985008687907853269984665640564039457584007913129639936:=by
 unfold sz;rw [Int.bmod_def];split<;>omega
theorem jsp (z:Int) (h:ng z=true) (k:Nat) (hk:k<8):di (-z) k=di (um z) k:=z6j _ _ _ (by
 rw [zel] at h;simp at h;have:=zpx z;unfold um;rw [if_pos h];omega) hk
theorem jso (z:Int) (h:ng z=false) (k:Nat) (hk:k<8):di z k=di (um z) k:=z6j _ _ _ (by
 rw [zel] at h;simp at h;have:=zpx z;unfold um;rw [if_neg (by omega)];omega) hk
theorem z0l (z:Int):Ret prog G0 115 #[wd z] (dg (um z)):=by
 refine zas G0F func115 rfl call115 (by simp) (by simp) (by simp [ntmps115]) ?_
 intro C hC hC0 hY
 repeat' first|refine gwZ ?_|refine gwW ?_|refine gwC ?_ ?_<;>intro hb
 ·refine ⟨.inr trivial,?_⟩
  simp [results115,jsp z hb]
 ·refine ⟨.inr trivial,?_⟩
  simp [results115,jso z hb]
@[simp] theorem jr5 (z:Int) (K:Value->Prop):za2 prog G0 115 #[Value.agg #[.int .u64 (wi (z) 0),.int .u64 (wi (z) 1),.int .u64 (wi (z) 2),.int .u64 (wi (z) 3)]] K↔K (dg (um z)):=zac G0W (by kernel_rfl) (z0l z)
@[simp] theorem jqr (a b:Int) (K:Value->Prop):za2 prog G0 114 #[Value.agg #[.int .u64 (di (um a) 0),.int .u64 (di (um a) 1),.int .u64 (di (um a) 2),.int .u64 (di (um a) 3),.int .u64 (di (um a) 4),.int .u64 (di (um a) 5),.int .u64 (di (um a) 6),.int .u64 (di (um a) 7)],Value.agg #[.int .u64 (di (um b) 0),.int .u64 (di (um b) 1),.int .u64 (di (um b) 2),.int .u64 (di (um b) 3),.int .u64 (di (um b) 4),.int .u64 (di (um b) 5),.int .u64 (di (um b) 6),.int .u64 (di (um b) 7)]] K↔K (.agg (fa 16 .u64 (di (um a*um b)))):=by
 have h1:=zwi a
 have h2:=zwi b
 have e:ze9 (um a) (um b) 8=um a*um b:=by unfold ze9;rw [Int.emod_eq_of_lt (by omega) (by omega)]
 rw [<-e]
 exact zac G0W (by kernel_rfl) (zwh (um a) (um b) (by omega) (by omega))

def hiB (D:Int) (i:Nat):Bool:=(List.range i).any λj=>decide (0<di D (8+j))
theorem z3g (D:Int) (i:Nat):hiB D (i+1)=(hiB D i||decide (0<di D (8+i))):=by unfold hiB;rw [List.range_succ,List.any_append];simp
def zvt (a b:Int) (D:Int) (i:Nat):GS :=
 ⟨tsL [(2,.pointer (some ⟨200,0,none⟩)),(3,.pointer (some ⟨208,0,none⟩)),(4,.pointer (some ⟨216,0,none⟩)),(6,.pointer (some ⟨272,0,none⟩)),(7,.pointer (some ⟨288,0,none⟩)),(8,.bool (hiB D i)),(9,.int .i64 i)],
 hpL G0 [(200,⟨#[.int .u64 (wi a 0),.int .u64 (wi a 1),.int .u64 (wi a 2),.int .u64 (wi a 3)],.ty 30⟩),(208,⟨#[.int .u64 (wi b 0),.int .u64 (wi b 1),.int .u64 (wi b 2),.int .u64 (wi b 3)],.ty 30⟩),(216,⟨#[.int .u64 0,.int .u64 0,.int .u64 0,.int .u64 0],.ty 30⟩),
  (272,⟨fa 16 .u64 (di D),.ty 149⟩),(288,⟨fa 8 .u64 λj=>if j<i then di D j else 0,.ty 96⟩)],300,0⟩
def ziu (a b:Int):Bool:=decide (¬(-57896044618658097711785492504343953926634992332820282019728792003956564819968<=sz a*sz b/\sz a*sz b<57896044618658097711785492504343953926634992332820282019728792003956564819968))
theorem zwl (D:Int) (h:sz D=0):wi D 0=0/\wi D 1=0/\wi D 2=0/\wi D 3=0:=by
 have h1:=zpx D
 rw [h] at h1
 simp only [wi]
 refine ⟨?_,?_,?_,?_⟩<;>omega
theorem zr6 (D:Int) (h:sz D=0):(!wi D 0==0||(!wi D 1==0||(!wi D 2==0||!wi D 3==0)))=false:=by
 obtain ⟨w0,w1,w2,w3⟩:=zwl D h
 simp [w0,w1,w2,w3]
theorem zjz (D:Int) (h:¬sz D=0):(!wi D 0==0||(!wi D 1==0||(!wi D 2==0||!wi D 3==0)))=true:=by
 have:=wne D 0
 simp at this
 rw [this]
 have e:sz 0=0:=by decide
 simp [e,h]
theorem z2u (D:Int) (j:Nat):di D (8+j)=di (D / 115792089237316195423570985008687907853269984665640564039457584007913129639936) j:=by
 unfold di
 rw [Nat.mul_add,Int.pow_add,<-Int.ediv_ediv_of_nonneg (Int.le_of_lt (zbe 8))]
 rfl
theorem jf3 (D:Int) (h0:0<=D) (h1:D<115792089237316195423570985008687907853269984665640564039457584007913129639936*115792089237316195423570985008687907853269984665640564039457584007913129639936):hiB D 8=decide (115792089237316195423570985008687907853269984665640564039457584007913129639936<=D):=by
 have e:hiB D 8=decide (0<di (D / 115792089237316195423570985008687907853269984665640564039457584007913129639936) 0\/0<di (D / 115792089237316195423570985008687907853269984665640564039457584007913129639936) 1\/0<di (D / 115792089237316195423570985008687907853269984665640564039457584007913129639936) 2\/0<di (D / 115792089237316195423570985008687907853269984665640564039457584007913129639936) 3\/0<di (D / 115792089237316195423570985008687907853269984665640564039457584007913129639936) 4\/0<di (D / 115792089237316195423570985008687907853269984665640564039457584007913129639936) 5\/0<di (D / 115792089237316195423570985008687907853269984665640564039457584007913129639936) 6\/0<di (D / 115792089237316195423570985008687907853269984665640564039457584007913129639936) 7):=by
  simp only [hiB,List.range,List.range.loop,List.any_cons,List.any_nil,Bool.or_false,z2u,Bool.decide_or]
 rw [e]
 congr 1
 have hE:0<=D / 115792089237316195423570985008687907853269984665640564039457584007913129639936/\D / 115792089237316195423570985008687907853269984665640564039457584007913129639936<115792089237316195423570985008687907853269984665640564039457584007913129639936:=⟨by omega,by omega⟩
 have hD:115792089237316195423570985008687907853269984665640564039457584007913129639936<=D↔D / 115792089237316195423570985008687907853269984665640564039457584007913129639936≠0:=by omega
 rw [hD]
 generalize D / 115792089237316195423570985008687907853269984665640564039457584007913129639936=E at *
 simp only [di]
 refine propext ⟨λh=>?_,λh=>?_⟩
 ·rcases h with h|h|h|h|h|h|h|h<;>omega
 ·omega
theorem zpn (a b:Int) (h:(ng a==ng b)=true):sz a*sz b=um a*um b:=by
 rw [zel,zel] at h
 simp at h
 unfold um
 by_cases h1:sz a<0
 ·rw [if_pos h1,if_pos (h.1 h1),Int.neg_mul_neg]
 ·rw [if_neg h1,if_neg (λh2=>h1 (h.2 h2))]
theorem zl4 (a b:Int) (h:(ng a==ng b)=false):sz a*sz b=-(um a*um b):=by
 rw [zel,zel] at h
 simp at h
 unfold um
 by_cases h1:sz a<0
 ·rw [if_pos h1,if_neg (λh2=>h ⟨λ_=>h2,λ_=>h1⟩),Int.neg_mul,Int.neg_neg]
 ·have h2:sz b<0:=Classical.byContradiction λh2=>h ⟨λh3=>absurd h3 h1,λh3=>absurd h3 h2⟩
  rw [if_neg h1,if_pos h2,Int.mul_neg,Int.neg_neg]
theorem zee (D:Int) (h0:0<=D) (h1:¬115792089237316195423570985008687907853269984665640564039457584007913129639936<=D):sz D=if 57896044618658097711785492504343953926634992332820282019728792003956564819968<=D then D - 115792089237316195423570985008687907853269984665640564039457584007913129639936 else D:=by
 unfold sz;rw [Int.bmod_def];split<;>split<;>omega
theorem zrx (D:Int) (h0:0<=D) (h1:¬115792089237316195423570985008687907853269984665640564039457584007913129639936<=D):sz (-D)=if 57896044618658097711785492504343953926634992332820282019728792003956564819968<D then 115792089237316195423570985008687907853269984665640564039457584007913129639936 - D else -D:=by
 unfold sz;rw [Int.bmod_def];split<;>split<;>omega
theorem z4e (a b:Int):Ret prog G0 89 #[wd a,wd b] (.tuple #[wd (sz a*sz b),.bool (ziu a b)]):=by
 refine zas G0F func89 rfl call89 (by simp) (by simp) (by simp [ntmps89]) ?_
 intro C hC hC0 hY
 repeat' first|refine gwZ ?_|refine gwW ?_|refine gwC ?_ ?_<;>intro hb
 generalize hD:um a*um b=D
 refine zbt 8 (zvt a b D) ?_ ?_ ?_
 ·refine za3 _ 300 hC G0F (m0:=[]) hC0 (by omega) ?_ ?_ ?_
  ·simp [zap,zax,zah,zaj,dom,hiB]
  ·simp [zad,zco,zah,zaj]
   exact (zlr .u64 λ_=>0).symm
  ·simp
 ·intro i hi
  have hi':(i:Int)<8:=by omega
  have hz:(0:Int)<=i:=by omega
  have hs:Int.bmod ((i:Int)+1) 18446744073709551616=((i+1:Nat):Int):=by rw [bm (by omega) (by omega)];rfl
  have hi8:Int.bmod (8+(i:Int)) 18446744073709551616=8+(i:Int):=bm (by omega) (by omega)
  have hi9:(0:Int)<=8+(i:Int):=by omega
  have hi10:(8+(i:Int)).toNat=8+i:=by omega
  have hi11:8+(i:Int)<16:=by omega
  have hi12:(i:Int)<=7:=by omega
  have hi13:8+i<16:=by omega
  have hi14:i<=7:=by omega
  have hj1:(i:Int)<16:=by omega
  have hj2:i<16:=by omega
  cases hq:hiB D i
  all_goals
   unfold zvt
   repeat' first|refine gwZ ?_|(refine gwX ?_;intro Q hQ _;simp [hC,hY,hq,hi,hi',hz,hs,hi8,hi9,hi10,hi11,hi12,hi13,hi14,hj1,hj2,zeh];refine gwq hQ ?_)|refine gwC ?_ ?_<;>intro hb
  all_goals
   refine za3 _ 300 hC G0F (m0:=[]) hC0 (by omega) ?_ ?_ ?_
   ·simp [zap,zax,zah,zaj,dom,hs,z3g,hq]
   ·have e:fa 8 .u64 (upd (λj=>if j<i then di D j else 0) i (di D i))=fa 8 .u64 (λj=>if j<i+1 then di D j else 0):=zca λj _=>by
     unfold upd
     by_cases h:j=i
     ·subst h;simp
     ·simp only [h,if_false]
      by_cases h2:j<i
      ·rw [if_pos h2,if_pos (by omega)]
      ·rw [if_neg h2,if_neg (by omega)]
    simp [zad,zco,zah,zaj,e]
   ·simp
 ·have hbd:0<=D/\D<=57896044618658097711785492504343953926634992332820282019728792003956564819968*57896044618658097711785492504343953926634992332820282019728792003956564819968:=by
   have h1:=zwi a
   have h2:=zwi b
   rw [<-hD]
   exact ⟨Int.mul_nonneg h1.1 h2.1,Int.mul_le_mul h1.2 h2.2 h2.1 (by omega)⟩
  have hh:=jf3 D hbd.1 (by have:=hbd.2;omega)
  have hs1:=zpn a b
  have hs2:=zl4 a b
  rw [hD] at hs1 hs2
  cases hn:(ng a==ng b)
  ·cases hq:hiB D 8
   ·by_cases hz:sz D=0
    ·have hw:=zr6 D hz
     unfold zvt
     repeat' first|refine gwZ ?_|(refine gwX ?_;intro Q hQ _;simp [hC,hY,zlr,hq,hn,hw];refine gwq hQ ?_)|refine gwC ?_ ?_<;>intro hb
     refine ⟨.inr trivial,?_⟩
     rw [hh] at hq
     simp [results89,hs2 hn,hw,ziu,hq]
     have:=zee D hbd.1 (by simpa using hq)
     simp at hq
     omega
    ·have hw:=zjz D hz
     unfold zvt
     repeat' first|refine gwZ ?_|(refine gwX ?_;intro Q hQ _;simp [hC,hY,zlr,hq,hn,hw];refine gwq hQ ?_)|refine gwC ?_ ?_<;>intro hb
     refine ⟨.inr trivial,?_⟩
     rw [hh] at hq
     simp [results89,hs2 hn,hw,ziu,hq]
     rw [Bool.eq_iff_iff]
     simp [zel]
     have h3:=zee D hbd.1 (by simpa using hq)
     have h4:=zrx D hbd.1 (by simpa using hq)
     simp at hq
     omega
   ·unfold zvt
    repeat' first|refine gwZ ?_|(refine gwX ?_;intro Q hQ _;simp [hC,hY,zlr,hq,hn];refine gwq hQ ?_)|refine gwC ?_ ?_<;>intro hb
    refine ⟨.inr trivial,?_⟩
    rw [hh] at hq
    simp [results89,hs2 hn,ziu,hq]
    simp at hq
    omega
  ·cases hq:hiB D 8
   all_goals
    unfold zvt
    repeat' first|refine gwZ ?_|(refine gwX ?_;intro Q hQ _;simp [hC,hY,zlr,hq,hn];refine gwq hQ ?_)|refine gwC ?_ ?_<;>intro hb
   ·refine ⟨.inr trivial,?_⟩
    rw [hh] at hq
    simp [results89,hs1 hn,ziu,hq]
    rw [Bool.eq_iff_iff]
    simp [zel]
    have h3:=zee D hbd.1 (by simpa using hq)
    simp at hq
    omega
   ·refine ⟨.inr trivial,?_⟩
    rw [hh] at hq
    simp [results89,hs1 hn,ziu,hq]
    simp at hq
    omega
@[simp] theorem jtp (a b:Int) (K:Value->Prop):za2 prog G0 89 #[Value.agg #[.int .u64 (wi (a) 0),.int .u64 (wi (a) 1),.int .u64 (wi (a) 2),.int .u64 (wi (a) 3)],Value.agg #[.int .u64 (wi (b) 0),.int .u64 (wi (b) 1),.int .u64 (wi (b) 2),.int .u64 (wi (b) 3)]] K↔K (.tuple #[wd (sz a*sz b),.bool (ziu a b)]):=zac G0W (by kernel_rfl) (z4e a b)

theorem z5t (z:Int):Ret prog G0 104 #[wd z] (.bool (ng z)):=by
 refine zas G0F func104 rfl call104 rfl (by simp) (by simp [ntmps104]) ?_
 intro C hC _ hY
 repeat' first|refine gwZ ?_|refine gwW ?_|fail
 refine ⟨.inr trivial,?_⟩
 have:=zbq z 3
 have:=zbw z 3
 simp [results104,ng]
 rw [Int.bmod_def]
 split<;>omega
@[simp] theorem juv (z:Int) (K:Value->Prop):za2 prog G0 104 #[Value.agg #[.int .u64 (wi (z) 0),.int .u64 (wi (z) 1),.int .u64 (wi (z) 2),.int .u64 (wi (z) 3)]] K↔K (.bool (ng z)):=zac G0W (by kernel_rfl) (z5t z)

theorem zxf (x y c:Int) (hx:0<=x) (hy:0<=y) (h0:0<=c) (h1:c<=1):ji6 prog 128 #[.int .u64 x,.int .u64 y,.int .u64 c] (.tuple #[.int .u64 ((x+y+c)%18446744073709551616),.int .u64 ((x+y+c) / 18446744073709551616)]):=by
 refine ⟨by simp,by simp,λw=>?_⟩
 rw [run_callFunc_extern func128 (by kernel_rfl) (by kernel_rfl) (by kernel_rfl) (e:=add64Entry) (by kernel_rfl),run_add64 x y c hx hy h0 h1]
 simp only [Result.andThen]
@[simp] theorem jqz (x y c:Int) (hx:0<=x) (hy:0<=y) (h0:0<=c) (h1:c<=1) (K:Value->Prop):za2 prog G0 128 #[.int .u64 x,.int .u64 y,.int .u64 c] K↔K (.tuple #[.int .u64 ((x+y+c)%18446744073709551616),.int .u64 ((x+y+c) / 18446744073709551616)]):=zup (zxf x y c hx hy h0 h1)

def wb (z:Int):Blk:=⟨#[.int .u64 (wi z 0),.int .u64 (wi z 1),.int .u64 (wi z 2),.int .u64 (wi z 3)],.ty 30⟩
theorem z09 (a b:Int) (k:Nat) (h100:100<=k):Fun prog G0 129 #[wd a,wd b] G0 [] (.new (.func (.func 146) #[] #[.pointer (some ⟨k,0,none⟩),.pointer (some ⟨k+1,0,none⟩)]) [(k,wb a),(k+1,wb b)]):=by
 have e0:rst G0 []=G0:=zku G0F []
 refine zth (B:=200) (λj=>if j=k then 200 else if j=k+1 then 208 else j) G0F (λ_ _=>rfl) func129 rfl call129 (by simp [zap,zax,zah,zaj]) (by rw [e0];exact zeg _) ?_ (by simp [ntmps129]) (by omega) (by rw [e0];exact λx hx=>zfr x (by omega)) (λj hj=>?_) ?_ ?_ ?_ ?_
 ·refine ⟨by simp [zap,zax,zah,zaj,zc7,zaa],by simp [zaa];omega,λq b c h1 h2=>?_⟩
  simp at h1 h2
  rcases h1 with ⟨e1,rfl⟩|⟨e1,rfl⟩<;>rcases h2 with ⟨e2,rfl⟩|⟨e2,rfl⟩<;>first|rfl|omega
 ·rw [e0] at hj;have:=zj0 hj;rw [if_neg (by omega),if_neg (by omega)]
 ·simp [e0,dom]
 ·simp
 ·simp [wb,zad,zah,zaj]
 ·intro C hC hC0 hY
  rw [e0]
  repeat' first|refine gwZ ?_|refine gwW ?_|fail
  refine ⟨.inr trivial,?_⟩
  simp [results129,ren,zay,zak,zan,wb]
  intro j hj
  have:=zj0 hj
  rw [if_neg (by omega),if_neg (by omega)]
def ze2 (a b:Int):List (Array Value):=[#[.int .u64 (wi a 0),.int .u64 (wi b 0)],#[.int .u64 (wi a 1),.int .u64 (wi b 1)],#[.int .u64 (wi a 2),.int .u64 (wi b 2)],#[.int .u64 (wi a 3),.int .u64 (wi b 3)]]

def wHp (a b:Int):Hp:=hpL G0 [(100,wb a),(101,wb b)]
def znx (a b:Int) (l i:Nat):GS :=
 ⟨tsL [(0,.func (.yield l) #[] #[]),(1,.pointer (some ⟨100,0,none⟩)),(2,.pointer (some ⟨101,0,none⟩)),(5,.int .i64 i)],wHp a b,300,i⟩
theorem z5z (a b:Int):zhp prog G0 146 #[.pointer (some ⟨100,0,none⟩),.pointer (some ⟨101,0,none⟩)] (wHp a b) [100,101] (ze2 a b):=by
 have e0:rst (wHp a b) [100,101]=wHp a b:=zf3 G0F (by simp)
 refine zq3 (B:=200) (v:=.tuple #[]) G0F (λk hk=>zbc (by simp) hk) func146 rfl call146 ?_ ?_ (by simp [ntmps146]) (by omega) ?_ ?_
 ·rw [e0];simp [zap,zax,zah,zaj,dom,wHp]
 ·rw [e0]
  intro k c hk
  rcases za5 hk with h|h
  ·simp at h
   rcases h with ⟨_,rfl⟩|⟨_,rfl⟩<;>simp [wb,zad,zah,zaj]
  ·exact Blk.flat_ids ((G0F k c h).2)
 ·rw [e0]
  intro x hx
  have h1:¬x=100:=by omega
  have h2:¬x=101:=by omega
  have h3:100<=x:=by omega
  simp [wHp,h1,h2,h3]
 ·intro C l stop hC hC0 hY
  rw [e0] at hC0 |-
  repeat' first|refine gwZ ?_|(refine gwX ?_;intro Q hQ _;simp [hC,hY,wHp,wb];refine gwq hQ ?_)|fail
  refine zbt (min stop 4) (znx a b l) ?_ ?_ ?_
  ·refine za3 _ 300 hC G0F (m0:=[(100,wb a),(101,wb b)]) hC0 (by omega) ?_ ?_ ?_
   ·simp [zap,zax,zah,zaj,dom]
   ·simp [zad,zah,zaj,wb]
   ·simp [wb]
  ·intro i hi
   have hs:i<stop:=by omega
   have hq:(i != stop)=true:=by simp;omega
   have hle:i<=stop:=by omega
   have:i=0\/i=1\/i=2\/i=3:=by omega
   rcases this with rfl|rfl|rfl|rfl<;>unfold znx wHp
   all_goals
    repeat' first|refine gwZ ?_|(refine gwX ?_;intro Q hQ _;simp [hC,hY,ze2,hq,hle,wb];refine gwq hQ ?_)|fail
   all_goals
    refine za3 _ 300 hC G0F (m0:=[(100,wb a),(101,wb b)]) hC0 (by omega) ?_ ?_ ?_
    ·simp [zap,zax,zah,zaj,dom]
    ·simp [zad,zah,zaj,wb]
    ·simp [wb]
  ·by_cases h4:4<=stop
   ·rw [Nat.min_eq_right h4]
    unfold znx wHp
    repeat' first|refine gwZ ?_|(refine gwX ?_;intro Q hQ _;simp [hC,hY,ze2,wb];refine gwq hQ ?_)|fail
    refine ⟨.inl trivial,?_⟩
    simp [results146,ze2]
    omega
   ·rw [Nat.min_eq_left (by omega)]
    have:stop=0\/stop=1\/stop=2\/stop=3:=by omega
    rcases this with rfl|rfl|rfl|rfl<;>unfold znx wHp
    all_goals
     repeat' first|refine gwZ ?_|(refine gwX ?_;intro Q hQ _;simp [hC,hY,ze2,wb];refine gwq hQ ?_)|fail
    all_goals
     refine ⟨.inr trivial,?_⟩
     simp [results146,ze2]

theorem jbf (i:Nat):(2:Int)^(64*i)=2^(32*(2*i)):=by congr 1;omega
theorem jlm (a b c:Int) (i:Nat):(wi a i+wi b i+car a b c (2*i))%18446744073709551616=wi (a+b+c) i:=by
 unfold wi car
 rw [jbf,zll a b c _ (zbe (2*i))]
 omega
theorem jln (a b c:Int) (i:Nat):(wi a i+wi b i+car a b c (2*i)) / 18446744073709551616=car a b c (2*(i+1)):=by
 unfold wi car
 have e:(2:Int)^(32*(2*(i+1)))=2^(32*(2*i))*18446744073709551616:=by
  rw [show 32*(2*(i+1))=32*(2*i)+64 by omega,Int.pow_add];rfl
 rw [jbf,e,zdw a _ _ (zbe (2*i)) (by omega),zdw b _ _ (zbe (2*i)) (by omega)]
 generalize hM:(2:Int)^(32*(2*i))=M
 have hp:0<M:=hM▸zbe (2*i)
 have e:a%M+M*(a / M%18446744073709551616)+(b%M+M*(b / M%18446744073709551616))+c=(a%M+b%M+c)+M*(a / M%18446744073709551616+b / M%18446744073709551616):=by rw [Int.mul_add];omega
 rw [e,<-Int.ediv_ediv_of_nonneg (Int.le_of_lt hp),Int.add_mul_ediv_left _ _ (by omega)]
 congr 1
 omega

theorem zhp.cast {P:Program} {G:Hp} {f:FuncId} {caps caps':Array Value} {hp:Hp} {rs rs':List Nat} {xs:List (Array Value)} (h:zhp P G f caps hp rs xs) (e1:caps=caps') (e2:rs=rs'):zhp P G f caps' hp rs' xs:=by subst e1 e2;exact h

theorem zhk {D:Nat->Prop} {l:List (Nat×Value)} (h:∀ p∈l,zap D p.2) (t:Nat):zap D (tsL l t):=by
 rcases zd7 (l:=l) (t:=t) with e|e
 ·rw [e];simp [zcm,zap,zax,zah,zaj]
 ·exact h _ e
def jhn (a b c:Int) (i:Nat):Hp:=hpL G0 [(200,wb a),(208,wb b),(216,⟨#[.int .u64 (car a b c (2*i))],.ty 28⟩),
 (224,⟨#[.int .u64 (if 0<i then wi (a+b+c) 0 else 0),.int .u64 (if 1<i then wi (a+b+c) 1 else 0),.int .u64 (if 2<i then wi (a+b+c) 2 else 0),.int .u64 (if 3<i then wi (a+b+c) 3 else 0)],.ty 30⟩),
 (232,⟨#[.int .i64 i],.ty 3⟩)]
def jk6:Nat->Value:=tsL [(3,.pointer (some ⟨200,0,none⟩)),(4,.pointer (some ⟨208,0,none⟩)),(5,.pointer (some ⟨216,0,none⟩)),(6,.pointer (some ⟨224,0,none⟩)),(7,.pointer (some ⟨232,0,none⟩))]
theorem z1a (a b c:Int) (h0:0<=c) (h1:c<=1):Ret prog G0 102 #[wd a,wd b,.int .u64 c] (wd (a+b+c)):=by
 refine zas G0F func102 rfl call102 (by simp) (by simp) (by simp [ntmps102]) ?_
 intro C hC hC0 hY
 repeat' first|refine gwZ ?_|refine gwW ?_|fail
 refine zde [129] (by kernel_rfl) ?_;intro Q hQ hP;simp [hC,hY]
 refine zcl (z09 a b 264 (by omega)) (by simp) (λ_ _=>rfl) (by simp [Res.at]) ?_
 simp
 refine hQ _ _ _ _ ?_;clear hQ hP Q
 repeat' first|refine gwZ ?_|refine gwW ?_|fail
 refine zjk (f:=146) (rs:=[264,265]) (xs:=ze2 a b) (caps:=#[.pointer (some ⟨264,0,none⟩),.pointer (some ⟨265,0,none⟩)]) (by simp) ?_ (by simp [ze2]) (by simp [ntmps102]) jk6 (jhn a b c) 300 4 (by simp [ze2]) ?_ ?_ ?_ ?_ ?_
 ·rw [hC]
  refine zhp.cast (IterX.rn (λk=>if k=100 then 264 else if k=101 then 265 else k) G0F (λk hk=>zbc (by simp) hk) (rs:=[100,101]) ?_ (z5z a b)) (by simp [zan]) (by simp)
  refine ⟨λk hk=>?_,?_,?_,?_⟩
  ·have h1:¬k=100:=by omega
   have h2:¬k=101:=by omega
   have h3:¬k=200:=by omega
   have h4:¬k=208:=by omega
   have h5:¬k=216:=by omega
   have h6:¬k=224:=by omega
   have h7:¬k=232:=by omega
   have h8:¬k=264:=by omega
   have h9:¬k=265:=by omega
   simp [h1,h2,h3,h4,h5,h6,h7,h8,h9,wHp]
  ·simp
  ·simp [wHp,wb,Blk.rn,zak,zan]
  ·simp
 ·refine za3 _ 300 hC G0F (m0:=[]) hC0 (by omega) ?_ ?_ ?_
  ·simp [zap,zax,zah,zaj,dom]
  ·simp [zad,zah,zaj,wb,zsk]
  ·simp
 ·simp [jhn,dom]
 ·intro i hi t
  refine zhk ?_ t
  simp [zap,zax,zah,zaj,dom,jhn]
 ·intro i x hi hx C1 l hC1 hh1 hY1
  have hCC:=hC
  have hC1':C1.G=G0:=hC1.trans hC
  have c0:=λk=>(zsj a b c h0 h1 k).1
  have c1:=λk=>(zsj a b c h0 h1 k).2
  have A0:(wi a 0+wi b 0+car a b c 0)%18446744073709551616=wi (a+b+c) 0:=jlm a b c 0
  have A1:(wi a 1+wi b 1+car a b c 2)%18446744073709551616=wi (a+b+c) 1:=jlm a b c 1
  have A2:(wi a 2+wi b 2+car a b c 4)%18446744073709551616=wi (a+b+c) 2:=jlm a b c 2
  have A3:(wi a 3+wi b 3+car a b c 6)%18446744073709551616=wi (a+b+c) 3:=jlm a b c 3
  have B0:(wi a 0+wi b 0+car a b c 0) / 18446744073709551616=car a b c 2:=jln a b c 0
  have B1:(wi a 1+wi b 1+car a b c 2) / 18446744073709551616=car a b c 4:=jln a b c 1
  have B2:(wi a 2+wi b 2+car a b c 4) / 18446744073709551616=car a b c 6:=jln a b c 2
  have B3:(wi a 3+wi b 3+car a b c 6) / 18446744073709551616=car a b c 8:=jln a b c 3
  replace hC:=hC1'
  replace hY:=hY1
  have:i=0\/i=1\/i=2\/i=3:=by omega
  rcases this with rfl|rfl|rfl|rfl
  all_goals
   simp [ze2] at hx
   subst hx
   unfold jhn
  all_goals
   repeat' first|refine gwZ ?_|(refine gwX ?_;intro Q hQ _;simp [hC,hY,zav,jk6];refine gwq hQ ?_)|fail
  all_goals
   intro C2 hC2 hh2 hY2
   replace hC:C2.G=G0:=hC2.trans hCC
   replace hY:=hY2
   repeat' first|refine gwZ ?_|(refine gwX ?_;intro Q hQ _;simp [hC,hY,zav,jk6,c0,c1,zbq,A0,A1,A2,A3,B0,B1,B2,B3];refine gwq hQ ?_)|fail
  all_goals
   refine za3 [] 300 hC1' G0F hh1 (by omega) ?_ ?_ ?_
   ·simp
   ·simp [zad,zah,zaj,wb]
   ·simp [wb]
 ·left
  refine ⟨rfl,?_⟩
  unfold jhn jk6
  repeat' first|refine gwZ ?_|refine gwW ?_|fail
  refine ⟨.inr trivial,?_⟩
  simp [results102]
@[simp] theorem jsy (a b c:Int) (h0:0<=c) (h1:c<=1) (K:Value->Prop):za2 prog G0 102 #[Value.agg #[.int .u64 (wi (a) 0),.int .u64 (wi (a) 1),.int .u64 (wi (a) 2),.int .u64 (wi (a) 3)],Value.agg #[.int .u64 (wi (b) 0),.int .u64 (wi (b) 1),.int .u64 (wi (b) 2),.int .u64 (wi (b) 3)],.int .u64 c] K↔K (wd (a+b+c)):=zac G0W (by kernel_rfl) (z1a a b c h0 h1)

theorem z5l (a b:Int):Ret prog G0 124 #[wd a,wd b] (.tuple #[wd (a+b),.bool (ng a==ng b&&ng (a+b) != ng a)]):=by
 refine zas G0F func124 rfl call124 (by simp) (by simp) (by simp [ntmps124]) ?_
 intro C hC hC0 hY
 cases hq:(ng a==ng b)
 all_goals
  repeat' first|refine gwZ ?_|(refine gwX ?_;intro Q hQ _;simp [hC,hY,hq];refine gwq hQ ?_)|refine gwC ?_ ?_<;>intro hb
  refine ⟨.inr trivial,?_⟩
  simp [results124,hq]
@[simp] theorem juq (a b:Int) (K:Value->Prop):za2 prog G0 124 #[Value.agg #[.int .u64 (wi (a) 0),.int .u64 (wi (a) 1),.int .u64 (wi (a) 2),.int .u64 (wi (a) 3)],Value.agg #[.int .u64 (wi (b) 0),.int .u64 (wi (b) 1),.int .u64 (wi (b) 2),.int .u64 (wi (b) 3)]] K↔K (.tuple #[wd (a+b),.bool (ng a==ng b&&ng (a+b) != ng a)]):=zac G0W (by kernel_rfl) (z5l a b)
theorem jce (n:Int) (h:i64 n):Ret prog G0 99 #[.int .i64 n] (wd n):=by
 refine zas G0F func99 rfl call99 (by simp) (by simp) (by simp [ntmps99]) ?_
 intro C hC hC0 hY
 repeat' first|refine gwZ ?_|refine gwW ?_|refine gwC ?_ ?_<;>intro hb
 refine ⟨.inr trivial,?_⟩
 simp [results99,wi]
 unfold i64 at h
 rw [Int.fdiv_eq_ediv_of_nonneg _ (by omega)]
 by_cases hn:n<0
 ·have e1:n / 9223372036854775808=-1:=by omega
  have e2:n / 18446744073709551616=-1:=by omega
  have e3:n / 340282366920938463463374607431768211456=-1:=by omega
  have e4:n / 6277101735386680763835789423207666416102355444464034512896=-1:=by omega
  rw [e1,e2,e3,e4];decide
 ·have e1:n / 9223372036854775808=0:=by omega
  have e2:n / 18446744073709551616=0:=by omega
  have e3:n / 340282366920938463463374607431768211456=0:=by omega
  have e4:n / 6277101735386680763835789423207666416102355444464034512896=0:=by omega
  rw [e1,e2,e3,e4];decide
@[simp] theorem wOf (n:Int) (h:i64 n) (K:Value->Prop):za2 prog G0 99 #[.int .i64 n] K↔K (wd n):=zac G0W (by kernel_rfl) (jce n h)
theorem z55 (x:Int) (h0:0<=x) (h1:x<18446744073709551616):zdy .xor .u64 IntKind.u64.max x=18446744073709551615 - x:=by
 have e:BitVec.ofInt 64 IntKind.u64.max=BitVec.allOnes 64:=by decide
 unfold zdy
 show IntKind.u64.wrap ((BitVec.ofInt 64 IntKind.u64.max ^^^ BitVec.ofInt 64 x:BitVec 64).toNat:Int)=_
 rw [zny,e,BitVec.allOnes_xor,BitVec.toNat_not]
 have:(BitVec.ofInt 64 x).toNat=x.toNat:=by
  rw [BitVec.toNat_ofInt]
  congr 1
  exact Int.emod_eq_of_lt h0 h1
 rw [this]
 omega
theorem joy (z:Int) (k:Nat):18446744073709551615 - wi z k=wi (-z - 1) k:=by
 unfold wi
 generalize hM:(2:Int)^(64*k)=M
 have hp:0<M:=by rw [<-hM,jbf];exact zbe _
 have e:(-z - 1) / M=-(z / M) - 1:=by
  have h1:=Int.emod_add_mul_ediv z M
  have h2:=Int.emod_nonneg z (b:=M) (by omega)
  have h3:=Int.emod_lt_of_pos z hp
  have:-z - 1=(M - 1 - z%M)+M*(-(z / M) - 1):=by rw [Int.mul_sub,Int.mul_neg];omega
  rw [this,Int.add_mul_ediv_left _ _ (by omega),Int.ediv_eq_zero_of_lt (by omega) (by omega)]
  omega
 rw [e]
 omega
theorem z5y (z:Int):Ret prog G0 103 #[wd z] (wd (-z - 1)):=by
 refine zas G0F func103 rfl call103 (by simp) (by simp) (by simp [ntmps103]) ?_
 intro C hC hC0 hY
 repeat' first|refine gwZ ?_|refine gwW ?_|refine gwC ?_ ?_<;>intro hb
 refine ⟨.inr trivial,?_⟩
 have e:(if IntKind.u64.signed=true then (-1:Int) else IntKind.u64.max)=IntKind.u64.max:=rfl
 have X:=λk=>z55 (wi z k) (zbq z k) (zbw z k)
 simp [results103,e,X,joy]
@[simp] theorem juu (z:Int) (K:Value->Prop):za2 prog G0 103 #[Value.agg #[.int .u64 (wi (z) 0),.int .u64 (wi (z) 1),.int .u64 (wi (z) 2),.int .u64 (wi (z) 3)]] K↔K (wd (-z - 1)):=zac G0W (by kernel_rfl) (z5y z)
theorem z52 (a b:Int):Ret prog G0 69 #[wd a,wd b] (.tuple #[wd (a - b),.bool (ng a != ng b&&ng (a - b) != ng a)]):=by
 refine zas G0F func69 rfl call69 (by simp) (by simp) (by simp [ntmps69]) ?_
 intro C hC hC0 hY
 have e:a+(-b - 1)+1=a - b:=by omega
 cases hq:(ng a != ng b)
 all_goals
  repeat' first|refine gwZ ?_|(refine gwX ?_;intro Q hQ _;simp [hC,hY,hq,e];refine gwq hQ ?_)|refine gwC ?_ ?_<;>intro hb
  refine ⟨.inr trivial,?_⟩
  simp [results69,hq,e]
@[simp] theorem jsv (a b:Int) (K:Value->Prop):za2 prog G0 69 #[Value.agg #[.int .u64 (wi (a) 0),.int .u64 (wi (a) 1),.int .u64 (wi (a) 2),.int .u64 (wi (a) 3)],Value.agg #[.int .u64 (wi (b) 0),.int .u64 (wi (b) 1),.int .u64 (wi (b) 2),.int .u64 (wi (b) 3)]] K↔K (.tuple #[wd (a - b),.bool (ng a != ng b&&ng (a - b) != ng a)]):=zac G0W (by kernel_rfl) (z52 a b)
theorem z5s (z:Int):Ret prog G0 76 #[wd z] (.tuple #[.int .i64 (if i64 (sz z) then sz z else 0),.bool (decide (i64 (sz z)))]):=by
 refine zas G0F func76 rfl call76 (by simp) (by simp) (by simp [ntmps76]) ?_
 intro C hC hC0 hY
 have h:=zsi (wi z 0)
 repeat' first|refine gwZ ?_|(refine gwX ?_;intro Q hQ _;simp [hC,hY,h];refine gwq hQ ?_)|refine gwC ?_ ?_<;>intro hb
 all_goals
  refine ⟨.inr trivial,?_⟩
  try rw [wne] at hb
  try rw [weq] at hb
  simp at hb
  rw [eq_comm,z64] at hb
  simp [results76,hb]
 exact zyl z hb
@[simp] theorem jur (z:Int) (K:Value->Prop):za2 prog G0 76 #[Value.agg #[.int .u64 (wi (z) 0),.int .u64 (wi (z) 1),.int .u64 (wi (z) 2),.int .u64 (wi (z) 3)]] K↔K (.tuple #[.int .i64 (if i64 (sz z) then sz z else 0),.bool (decide (i64 (sz z)))]):=zac G0W (by kernel_rfl) (z5s z)

theorem jas:ng 0=false:=by decide
@[simp] theorem jsw (a:Int) (K:Value->Prop):za2 prog G0 69 #[.agg #[.int .u64 0,.int .u64 0,.int .u64 0,.int .u64 0],Value.agg #[.int .u64 (wi (a) 0),.int .u64 (wi (a) 1),.int .u64 (wi (a) 2),.int .u64 (wi (a) 3)]] K↔K (.tuple #[wd (-a),.bool (ng a&&ng (-a))]):=by
 have:=jsv 0 a K
 have e:((false != ng a)&&ng (0 - a) != false)=(ng a&&ng (-a)):=by
  rw [Int.zero_sub];cases ng a<;>cases ng (-a)<;>rfl
 rw [jas,e,Int.zero_sub] at this
 simpa using this
theorem z5x (a:Int):Ret prog G0 126 #[wd a] (.tuple #[wd (-a),.bool (ng a&&ng (-a))]):=by
 refine zas G0F func126 rfl call126 (by simp) (by simp) (by simp [ntmps126]) ?_
 intro C hC hC0 hY
 repeat' first|refine gwZ ?_|refine gwW ?_|fail
 refine ⟨.inr trivial,?_⟩
 simp [results126]
@[simp] theorem jut (a:Int) (K:Value->Prop):za2 prog G0 126 #[Value.agg #[.int .u64 (wi (a) 0),.int .u64 (wi (a) 1),.int .u64 (wi (a) 2),.int .u64 (wi (a) 3)]] K↔K (.tuple #[wd (-a),.bool (ng a&&ng (-a))]):=zac G0W (by kernel_rfl) (z5x a)

theorem z4h (x:Int):Ret prog G0 108 #[.int .i64 x] (.bool false):=by
 refine zas G0F func108 rfl call108 rfl (by simp) (by simp [ntmps108]) ?_
 intro C hC hC0 hY
 repeat' first|refine gwZ ?_|refine gwW ?_|fail
 refine ⟨.inr trivial,?_⟩
 simp [results108]
@[simp] theorem jtq (x:Int) (K:Value->Prop):za2 prog G0 108 #[.int .i64 x] K↔K (.bool false):=zac G0W (by kernel_rfl) (z4h x)
theorem z4i (x:Int):Ret prog G0 109 #[.int .u64 x] (.bool false):=by
 refine zas G0F func109 rfl call109 rfl (by simp) (by simp [ntmps109]) ?_
 intro C hC hC0 hY
 repeat' first|refine gwZ ?_|refine gwW ?_|fail
 refine ⟨.inr trivial,?_⟩
 simp [results109]
@[simp] theorem jtr (x:Int) (K:Value->Prop):za2 prog G0 109 #[.int .u64 x] K↔K (.bool false):=zac G0W (by kernel_rfl) (z4i x)
theorem z2o (x y:Int):Ret prog G0 77 #[.int .i64 x,.int .i64 y] (.int .i64 (zb8 x y)):=by
 refine zas G0F func77 rfl call77 rfl (by simp) (by simp [ntmps77]) ?_
 intro C hC hC0 hY
 by_cases h1:x<y
 ·(repeat' (first|refine gwZ ?_|(refine gwX ?_;intro Q hQ _;simp [hC,hY,h1];refine gwq hQ ?_)|refine gwC ?_ ?_<;>intro hb))
  all_goals
   refine ⟨.inr trivial,?_⟩
   simp [results77,zb8,h1]
 ·by_cases h2:y<x
  ·have h3:¬x=y:=by omega
   (repeat' (first|refine gwZ ?_|(refine gwX ?_;intro Q hQ _;simp [hC,hY,h1,h2];refine gwq hQ ?_)|refine gwC ?_ ?_<;>intro hb))
   all_goals
    refine ⟨.inr trivial,?_⟩
    simp [results77,zb8,h1,h3]
  ·have h3:x=y:=by omega
   subst h3
   (repeat' (first|refine gwZ ?_|(refine gwX ?_;intro Q hQ _;simp [hC,hY,h1];refine gwq hQ ?_)|refine gwC ?_ ?_<;>intro hb))
   all_goals
    refine ⟨.inr trivial,?_⟩
    simp [results77,zb8]
@[simp] theorem js2 (x y:Int) (K:Value->Prop):za2 prog G0 77 #[.int .i64 x,.int .i64 y] K↔K (.int .i64 (zb8 x y)):=zac G0W (by kernel_rfl) (z2o x y)
theorem z2p (x y:Int):Ret prog G0 78 #[.int .u64 x,.int .u64 y] (.int .i64 (zb8 x y)):=by
 refine zas G0F func78 rfl call78 rfl (by simp) (by simp [ntmps78]) ?_
 intro C hC hC0 hY
 by_cases h1:x<y
 ·(repeat' (first|refine gwZ ?_|(refine gwX ?_;intro Q hQ _;simp [hC,hY,h1];refine gwq hQ ?_)|refine gwC ?_ ?_<;>intro hb))
  all_goals
   refine ⟨.inr trivial,?_⟩
   simp [results78,zb8,h1]
 ·by_cases h2:y<x
  ·have h3:¬x=y:=by omega
   (repeat' (first|refine gwZ ?_|(refine gwX ?_;intro Q hQ _;simp [hC,hY,h1,h2];refine gwq hQ ?_)|refine gwC ?_ ?_<;>intro hb))
   all_goals
    refine ⟨.inr trivial,?_⟩
    simp [results78,zb8,h1,h3]
  ·have h3:x=y:=by omega
   subst h3
   (repeat' (first|refine gwZ ?_|(refine gwX ?_;intro Q hQ _;simp [hC,hY,h1];refine gwq hQ ?_)|refine gwC ?_ ?_<;>intro hb))
   all_goals
    refine ⟨.inr trivial,?_⟩
    simp [results78,zb8]
@[simp] theorem js3 (x y:Int) (K:Value->Prop):za2 prog G0 78 #[.int .u64 x,.int .u64 y] K↔K (.int .i64 (zb8 x y)):=zac G0W (by kernel_rfl) (z2p x y)

def zg0 (a b:Int) (j:Nat):Int:=if j=0 then zb8 (Int.bmod (wi a 3) 18446744073709551616) (Int.bmod (wi b 3) 18446744073709551616) else zb8 (wi a (3 - j)) (wi b (3 - j))
def ztz (a b:Int) (j:Nat):GS :=
 ⟨tsL [(2,.pointer (some ⟨200,0,none⟩)),(3,.pointer (some ⟨208,0,none⟩)),(5,.int .i64 (zg0 a b j)),(6,.int .i64 (2 - j))],hpL G0 [(200,wb a),(208,wb b)],300,0⟩
theorem zxr {x y:Int}:zb8 x y=0↔x=y:=by unfold zb8;split<;>(try split)<;>omega
theorem bm3 (z:Int):Int.bmod (wi z 3) 18446744073709551616=wi z 3 - (if ng z then 18446744073709551616 else 0):=by
 have:=zbq z 3;have:=zbw z 3
 rw [Int.bmod_def];unfold ng;simp only [decide_eq_true_eq];split<;>split<;>omega
theorem jim (z:Int):∃ r,sz z=Int.bmod (wi z 3) 18446744073709551616*6277101735386680763835789423207666416102355444464034512896+r/\r=wi z 0+18446744073709551616*wi z 1+340282366920938463463374607431768211456*wi z 2/\0<=r/\r<6277101735386680763835789423207666416102355444464034512896:=by
 refine ⟨_,?_,rfl,?_,?_⟩
 ·rw [jb3,bm3];split<;>omega
 ·have:=zbq z 0;have:=zbq z 1;have:=zbq z 2;omega
 ·have:=zbw z 0;have:=zbw z 1;have:=zbw z 2;omega
theorem zmx {x y u v:Int} (h1:x<y↔u<v) (h2:x=y↔u=v):zb8 x y=zb8 u v:=by
 unfold zb8;simp only [h1,h2]
theorem z82 (a b:Int) (k:Nat) (hk:k=(if zg0 a b 0=0 then if zg0 a b 1=0 then if zg0 a b 2=0 then 3 else 2 else 1 else 0)):zg0 a b k=zb8 (sz a) (sz b):=by
 obtain ⟨r,ea,er,r0,r1⟩:=jim a
 obtain ⟨q,eb,eq,q0,q1⟩:=jim b
 have z0:zg0 a b 0=0↔Int.bmod (wi a 3) 18446744073709551616=Int.bmod (wi b 3) 18446744073709551616:=by simp only [zg0,if_true,zxr]
 have z1:zg0 a b 1=0↔wi a 2=wi b 2:=by simp [zg0,zxr]
 have z2:zg0 a b 2=0↔wi a 1=wi b 1:=by simp [zg0,zxr]
 simp only [z0,z1,z2] at hk
 have:=zbq a 0;have:=zbw a 0;have:=zbq a 1;have:=zbw a 1;have:=zbq a 2;have:=zbw a 2
 have:=zbq b 0;have:=zbw b 0;have:=zbq b 1;have:=zbw b 1;have:=zbq b 2;have:=zbw b 2
 clear z0 z1 z2
 by_cases h0:Int.bmod (wi a 3) 18446744073709551616=Int.bmod (wi b 3) 18446744073709551616
 ·rw [if_pos h0] at hk
  rw [h0] at ea
  by_cases h1:wi a 2=wi b 2
  ·rw [if_pos h1] at hk
   by_cases h2:wi a 1=wi b 1
   ·rw [if_pos h2] at hk
    subst hk
    simp only [zg0]
    exact zmx (by first|omega|(simp;omega)) (by first|omega|(simp;omega))
   ·rw [if_neg h2] at hk
    subst hk
    simp only [zg0]
    exact zmx (by first|omega|(simp;omega)) (by first|omega|(simp;omega))
  ·rw [if_neg h1] at hk
   subst hk
   simp only [zg0]
   exact zmx (by first|omega|(simp;omega)) (by first|omega|(simp;omega))
 ·rw [if_neg h0] at hk
  subst hk
  simp only [zg0]
  exact zmx (by first|omega|(simp;omega)) (by first|omega|(simp;omega))
theorem z5n (a b:Int):Ret prog G0 45 #[wd a,wd b] (.int .i64 (zb8 (sz a) (sz b))):=by
 refine zas G0F func45 rfl call45 (by simp) (by simp) (by simp [ntmps45]) ?_
 intro C hC hC0 hY
 repeat' first|refine gwZ ?_|refine gwW ?_|fail
 have e3:∀ z,Int.bmod (wi z 3) 18446744073709551616=wi z 3 - (if ng z then 18446744073709551616 else 0):=λz=>by
  have:=zbq z 3;have:=zbw z 3
  rw [Int.bmod_def];unfold ng;simp only [decide_eq_true_eq];split<;>split<;>omega
 refine zbt (if zg0 a b 0=0 then if zg0 a b 1=0 then if zg0 a b 2=0 then 3 else 2 else 1 else 0) (ztz a b) ?_ ?_ ?_
 ·refine za3 _ 300 hC G0F (m0:=[]) hC0 (by omega) ?_ ?_ ?_
  ·simp [zap,zax,zah,zaj,dom,zg0]
  ·simp [zad,zah,zaj,wb]
  ·simp
 ·intro i hi
  have:(i=0/\zg0 a b 0=0)\/(i=1/\zg0 a b 1=0)\/(i=2/\zg0 a b 2=0):=by (repeat' split at hi)<;>omega
  rcases this with ⟨rfl,h⟩|⟨rfl,h⟩|⟨rfl,h⟩<;>unfold ztz
  all_goals
   repeat' first|refine gwZ ?_|(refine gwX ?_;intro Q hQ _;simp [hC,hY,h,wb];refine gwq hQ ?_)|fail
  all_goals
   refine za3 _ 300 hC G0F (m0:=[]) hC0 (by omega) ?_ ?_ ?_
   ·simp [zap,zax,zah,zaj,dom,zg0]
   ·simp [zad,zah,zaj,wb]
   ·simp
 ·have f1:=jb3 a
  have f2:=jb3 b
  have g1:=e3 a
  have g2:=e3 b
  have:=zbq a 0;have:=zbw a 0;have:=zbq a 1;have:=zbw a 1;have:=zbq a 2;have:=zbw a 2;have:=zbq a 3;have:=zbw a 3
  have:=zbq b 0;have:=zbw b 0;have:=zbq b 1;have:=zbw b 1;have:=zbq b 2;have:=zbw b 2;have:=zbq b 3;have:=zbw b 3
  have key:∀ k,k=(if zg0 a b 0=0 then if zg0 a b 1=0 then if zg0 a b 2=0 then 3 else 2 else 1 else 0)->zg0 a b k=zb8 (sz a) (sz b):=λk hk=>by
   exact z82 a b k hk
  have hk:=key _ rfl
  generalize hN:(if zg0 a b 0=0 then if zg0 a b 1=0 then if zg0 a b 2=0 then 3 else 2 else 1 else 0)=N at *
  have hc:zg0 a b N≠0\/N=3:=by (repeat' split at hN)<;>subst hN<;>first|(left;assumption)|(right;rfl)
  by_cases hz:zg0 a b N=0
  ·have h3:N=3:=hc.resolve_left (λh=>h hz)
   subst h3
   unfold ztz
   repeat' first|refine gwZ ?_|(refine gwX ?_;intro Q hQ _;simp [hC,hY,hz,wb];refine gwq hQ ?_)|fail
   refine ⟨.inr trivial,?_⟩
   simp [results45,<-hk,hz]
  ·have hzb:(zg0 a b N==0)=false:=by simpa using hz
   unfold ztz
   repeat' first|refine gwZ ?_|(refine gwX ?_;intro Q hQ _;simp [hC,hY,hzb,wb];refine gwq hQ ?_)|fail
   refine ⟨.inr trivial,?_⟩
   simp [results45,hk]
@[simp] theorem jss (a b:Int) (K:Value->Prop):za2 prog G0 45 #[Value.agg #[.int .u64 (wi (a) 0),.int .u64 (wi (a) 1),.int .u64 (wi (a) 2),.int .u64 (wi (a) 3)],Value.agg #[.int .u64 (wi (b) 0),.int .u64 (wi (b) 1),.int .u64 (wi (b) 2),.int .u64 (wi (b) 3)]] K↔K (.int .i64 (zb8 (sz a) (sz b))):=zac G0W (by kernel_rfl) (z5n a b)
@[simp] theorem jst (a:Int) (K:Value->Prop):za2 prog G0 45 #[Value.agg #[.int .u64 (wi (a) 0),.int .u64 (wi (a) 1),.int .u64 (wi (a) 2),.int .u64 (wi (a) 3)],.agg #[.int .u64 0,.int .u64 0,.int .u64 0,.int .u64 0]] K↔K (.int .i64 (zb8 (sz a) 0)):=by
 have:=jss a 0 K
 have e:sz 0=0:=by decide
 rw [e] at this
 simpa using this
theorem z1e (a:Int):Ret prog G0 167 #[wd a] (.int .i64 (zb8 (sz a) 0)):=by
 refine zas G0F func167 rfl call167 (by simp) (by simp) (by simp [ntmps167]) ?_
 intro C hC hC0 hY
 repeat' first|refine gwZ ?_|refine gwW ?_|fail
 refine ⟨.inr trivial,?_⟩
 simp [results167]
@[simp] theorem jsu (a:Int) (K:Value->Prop):za2 prog G0 167 #[Value.agg #[.int .u64 (wi (a) 0),.int .u64 (wi (a) 1),.int .u64 (wi (a) 2),.int .u64 (wi (a) 3)]] K↔K (.int .i64 (zb8 (sz a) 0)):=zac G0W (by kernel_rfl) (z1e a)
end Go.Gy
