/-
  Lemmas of this claim, in their order (GyQ, GyT2, GyK5, GyK6, GyK7, GyDA, GyRI, GyRK, GyLA, GyV2, GyVA, GyM, GyX1, GyX2, GyX3, GyX4, GyX5, GyX6).
  Conditions: those of each theorem.
-/
import Derived.Test.YtamodcpmplmaoaaGreatDoorGz02
import Derived.RecoverIn
import Derived.Laws.Externs
set_option linter.unusedSimpArgs false
set_option linter.unusedVariables false
set_option maxRecDepth 20000
set_option maxHeartbeats 4000000
namespace Go.Gy
open Go Go.RowKit
theorem DM {p:Prop} (h:p:=by cases hy;exact ⟨λc x S W _ hx=>by simp [YG.still] at hx,eX⟩):p:=h
theorem Dn {p:Prop} (h:p:=by exact ⟨hd,.returning,by rw [hc],v,hv,⟨_,rfl⟩,rfl,rfl⟩):p:=h
theorem DA {p:Prop} (h:p:=by dsimp only at e;rw [e] at h2;exact absurd h2 (by simp [nj,fP])):p:=h
theorem EI {p:Prop} (h:p:=by
 rw [jQ (λk hk=>dk.1 k hk) eI.1] at gU;exact ⟨_,gU,rfl,dk.2⟩):p:=h

section
variable {P:Program} {G:Hp}

def GWL (P:Program) (C:Ctx) (n:Nat) (d:List Deferred) (ro:Option Nat) (c:Code) (s:GS) (K:l6):Prop :=
 ∀ r a W,GI P C n d r s a W->∀ (b:Frame) (k:List Item) (cs:List Frame),b.roundOf=ro->(Fs P).fn b.fn ->
  ∃ e a' w',(∃ s' r',K e s'/\GI P C n d r' s' a' w')/\ArrivesIn (Machine.fenced P (Fw P ro)) P (lone (b.atR a (.code c::.inLoop c::k)) cs W) b k cs e a' w'
theorem GWL_start {C:Ctx} {n:Nat} {d:List Deferred} {ro:Option Nat} {c:Code} {s:GS} {K:l6} (h:GWL P C n d ro c s K):GW P C n d ro (.loop c) s K:=by
 intro r a W hi b k cs Kv hb hr;obtain ⟨e,a',w',hq,jf⟩:=h r a W hi b k cs Kv hb;exact ⟨e,a',w',hq,.of_steps (.one (fenced_calm hb hr rfl) stepR_loop) jf⟩
theorem GWL_step {C:Ctx} {n:Nat} {d:List Deferred} {ro:Option Nat} {c:Code} {s:GS} {K:l6} (h:GW P C n d ro c s (dY (λs'=>GWL P C n d ro c s' K) K)):GWL P C n d ro c s K:=by
 intro r a W hi b k cs Kv NF;obtain ⟨e,a₁,w₁,⟨s',r',hk,cS⟩,jf⟩:=h r a W hi b (.inLoop c::k) cs Kv NF (oR P _)
 cases e with
 | normal =>
  obtain ⟨e₂,a₂,w₂,Vz,tR⟩:=hk r' a₁ w₁ cS b k cs Kv NF;exact yU
 | exit id=>exact ⟨_,a₁,w₁,⟨s',r',hk,cS⟩,.pass (x:=.inLoop c) rfl (λ_ _=>.inl zS) jf⟩
 | goto l=>exact ⟨_,a₁,w₁,⟨s',r',hk,cS⟩,.pass (x:=.inLoop c) rfl (λ_ _=>.inl zS) jf⟩
 | ret=>exact ⟨_,a₁,w₁,⟨s',r',hk,cS⟩,.pass (x:=.inLoop c) rfl (λ_ _=>.inl zS) jf⟩
 | panic ch=>exact ⟨_,a₁,w₁,⟨s',r',hk,cS⟩,.pass (x:=.inLoop c) rfl (λ_ _=>.inl zS) jf⟩
 | outgrown=>exact ⟨_,a₁,w₁,⟨s',r',hk,cS⟩,.pass (x:=.inLoop c) rfl (λ_ _=>.inl zS) jf⟩
theorem qu {C:Ctx} {n:Nat} {d:List Deferred} {ro:Option Nat} {c rest:Code} {s:GS} {K:l6} (l:Nat) (I:Nat->GS->Prop) (AM:findLabel c l=some (.seq .skip rest))
  (pass:∀ m s,I m s->GW P C n d ro rest s (tY l (λs'=>∃ vk m',Weak C s' vk/\I m' vk/\m'<m) K))
  (first:(∀ m s s',Weak C s' s->I m s->GW P C n d ro rest s' (tY l (λs'=>∃ vk m',Weak C s' vk/\I m' vk) K))->GW P C n d ro c s (tY l (λs'=>∃ vk m',Weak C s' vk/\I m' vk) K)):GW P C n d ro (.scope c) s K :=
 Zv l I AM (first λm s s' hw hI=>H0 hw (gn (pass m s hI) λe s h=>by
  cases e<;>first|exact h|exact ⟨h.1,let ⟨vk,m',h1,h2,_⟩:=h.2;⟨vk,m',h1,h2⟩⟩)) λm s hI=>tu (U0 (pass m s hI))
@[simp] theorem al0 (k:IntKind) (T:TypeId) (v:Value) (C:Eff->Prop):abT (some (.int k)) T v C=C (val (.iface T v) []):=nr rfl

theorem Om {n B:Nat} {hp:Hp} {ts:fp} {r:dR} {a:Act} {W:World} (eg:c7 G) (Ag:a.tmps.size=n) (hd:a.defers=[]) (abI:Rel r (dom hp) ts a)
  (jU:Sat r (dom hp) hp W) (jk:Inj r (dom hp)) (bC:∀ k,k<100->dom hp k->r k=k) (hG:∀ k,k<100->hp k=G k) (eU:∀ x,B<=x->hp x=none) (hB:100<=B) :
  GI P ⟨jM W (imO r hp),hp,r,G,some .still⟩ n [] r ⟨ts,hp,B,0⟩ a W:=by
 have RL:∀ k,dom hp k->r k<W.heap.size:=λk hk=>by
  unfold dom at hk
  cases hb:hp k with
  | none=>exact absurd hb hk
  | some b=>exact (aO.1 (jU k b hb).1).1
 exact ⟨⟨Ag,abI,jU,jk,⟨λk=>k<W.heap.size/\¬imO r hp k,[],⟨λ_=>gM,rfl,rfl,rfl,aA _,λ_ _=>rfl⟩,λk hk=>hk.1,λi hi _ hS=>hS.2 ⟨i,hi,rfl⟩,⟨by simp [hd],jX⟩,zS⟩,
   λi hi=>⟨hi,rfl⟩,hG,bC⟩,eU,hB,eg,λy hy=>DM⟩

theorem RI.still {C:Ctx} {n:Nat} {d:List Deferred} {r:dR} {ts:fp} {hp:Hp} {yc:Nat} {a:Act} {W:World} (h:RI C n d r ts hp yc a W) (hY:C.Y=some .still):a.defers=d:=by
 obtain ⟨S,ms,_,_,_,⟨h4,_⟩,h5⟩:=h.ext
 cases ms with
 | nil=>simpa using h4
 | cons D ms=>exact absurd hY (h5 D zS).2.2

theorem Um {C:Ctx} {n:Nat} {d:List Deferred} {r r':dR} {ts:fp} {hp hp0:Hp} {yc:Nat} {a':Act} {W W':World} {ws:cf} (h:RI C n d r' ts hp yc a' W') (hE:C.E=jM W (imO r hp0))
  (Vu:∀ k,dom hp0 k->dom C.hp0 k/\C.r0 k=r k) (jU:Sat r (dom hp0) hp0 W) (oM:∀ k b,hp0 k=some b->b.ids (dom hp0)) (H4:∀ k,dom hp0 k->hp k=bH hp0 ws k)
  (Sv:∀ k∈ak ws,dom hp0 k) (once:∀ k b c,(k,b)∈ws->(k,c)∈ws->b=c) (kL:∀ p∈ws,p.2.ids (dom hp0)):(∀ k,dom hp0 k->r' k=r k)/\Turn r (eo (dom hp0) []) W W' ws []:=by
 obtain ⟨S,ms,hX,xR,ND,_,_⟩:=h.ext;rw [hE] at hX;obtain ⟨hS,os,tape,output,size,wH⟩:=hX
 have pY:∀ i,dom hp0 i->dom hp i/\r' i=r i:=λi hi=>by
  have h1:=Vu i hi;have h2:=h.keep i h1.1;exact ⟨h2.1,h2.2.trans h1.2⟩
 refine ⟨λk hk=>(pY k hk).2,os,tape,output,size,λk hk H6=>?_,λp hp1=>?_,zS,zS⟩
 ·by_cases jR:imO r hp0 k
  ·obtain ⟨i,ot,rfl⟩:=jR;have hiw:i∉ak ws:=λhm=>DH
   cases hb:hp0 i with
   | none=>exact absurd hb ot
   | some b =>
    have e:hp i=some b:=by rw [H4 i ot,da hiw];exact hb
    have:=(h.sat i b e).1;exact HG
  ·exact wH k ((hS k).2 ⟨hk,jR⟩)
 ·simp only [eP] at hp1;have hdm:dom hp0 p.1:=Sv p.1 (aC.2 ⟨p,hp1,rfl⟩);have e:hp p.1=some p.2:=by rw [H4 _ hdm];exact zm hp1 once
  have:=(h.sat _ _ e).1;have hi:=kL p hp1;rw [(pY _ hdm).2,Blk.obj_congr (λk hk=>(pY k hk).2) hi] at this;exact ⟨this,Blk.ids_mono (λk hk=>.inl hk) hi⟩

theorem ahv {r:dR} {D:iH} {A:ca} {ds:List Deferred} (h:∀ x∈A,aL D x):Rel r D (λt=>A.getD t undef) { tmps:=A.map (ren r),defers:=ds }:=λt=>by
 right
 dsimp only;by_cases ht:t<A.size
 ·have e:A.getD t undef=A[t]:=by simp [Array.getD,ht]
  rw [e];exact ⟨xF,h _ (jV ht)⟩
 ·have e:A.getD t undef=undef:=by simp [fG (mF ht)]
  rw [e];exact ⟨by rw [kI];simp [fG (mF ht)],mY _⟩

def ado (pv:Value):FrameMode:=.panicking [{ v:=pv,recovered:=true }]
def ac5 (pv:Value):FrameMode:=.panicking [{ v:=pv,recovered:=false }]

structure RecF (P:Program) (G:Hp) (h:FuncId) (bF:ca) (hp:Hp) (rs:List Nat) (pv:Value) (ws:cf):Prop where
 fn:∃ fn,P.funcs[h]? = some fn
 enter:∀ a w,(callFunc h a).run P w=.ok (.enter h a) w
 back:∀ args W,args.size=bF.size->CallsDIn (Fs P) 0 P h args .returning W λe u' W'=>(∃ v,e=.returned v)/\u'=.returning/\W'=W
 caught:∀ r W,Sat r (dom (rst hp rs)) (rst hp rs) W->Inj r (dom (rst hp rs))->(∀ k,k<100->dom (rst hp rs) k->r k=k) ->
  CallsDIn (Fs P) 0 P h (bF.map (ren r)) (ac5 pv) W λe u' W'=>(∃ v,e=.returned v)/\u'=ado pv/\Turn r (eo (dom (rst hp rs)) []) W W' ws []

theorem K0 {h:FuncId} {fn:Func} {id:Nat} {ops:Array Oper} {rest:Code} {bF A:ca} {hp:Hp} {rs:List Nat} {pv:Value} {ws:cf} {B:Nat} (eg:c7 G) (hG:∀ k,k<100->hp k=G k)
  (hf:P.funcs[h]? = some fn) (hb:fn.body=some (.seq (.region id ops false) rest)) (hA:A.size=fn.ntmps) (zC:∀ x∈A,aL (dom (rst hp rs)) x)
  (alb:∀ (r:dR) (c₀:Frame) (cs:List Frame) (W:World) (Q:Exit->Act->List Frame->World->Prop),c₀.mode=ac5 pv->Q .normal { tmps:=A.map (ren r),defers:=[] } ({ c₀ with mode:=ado pv }::cs) W ->
   wpOpsSIn (Fs P) 0 P ops Q (List.range ops.size) { tmps:=bF.map (ren r)++Array.replicate (fn.ntmps - (bF.map (ren r)).size) undef,defers:=[] } (c₀::cs) W)
  (oM:∀ k b,rst hp rs k=some b->b.ids (dom (rst hp rs))) (Sv:∀ k∈ak ws,dom (rst hp rs) k) (once:∀ k b c,(k,b)∈ws->(k,c)∈ws->b=c) (kL:∀ p∈ws,p.2.ids (dom (rst hp rs)))
  (hB:100<=B) (eU:∀ x,B<=x->rst hp rs x=none)
  (AT:∀ C:Ctx,C.G=G->C.hp0=rst hp rs->C.Y=some .still->GW P C fn.ntmps [] none rest ⟨λt=>A.getD t undef,rst hp rs,B,0⟩ λe s=>(e=.normal\/e=.ret)/\(tB P fn.results.toList s.ts s.hp).isSome=true/\∀ k,dom (rst hp rs) k->s.hp k=bH (rst hp rs) ws k)
  (r:dR) (W:World) (jU:Sat r (dom (rst hp rs)) (rst hp rs) W) (jk:Inj r (dom (rst hp rs))) (bC:∀ k,k<100->dom (rst hp rs) k->r k=k) :
  CallsDIn (Fs P) 0 P h (bF.map (ren r)) (ac5 pv) W λe u' W'=>(∃ v,e=.returned v)/\u'=ado pv/\Turn r (eo (dom (rst hp rs)) []) W W' ws []:=by
 refine callsDIn_of_wpSIn hf hb ⟨fn,hf⟩ λc₀ cs hu=>wpSIn_seq (wpSIn_region (alb r c₀ cs W _ hu (wpSIn_of_wpIn rfl ?_)));have hi:=Om (P:=P) (B:=B) (n:=fn.ntmps) (ts:=λt=>A.getD t undef) (a:={ tmps:=A.map (ren r),defers:=[] }) eg (by simp [hA]) rfl (ahv zC) jU jk bC (λk hk=>by simp [rst,hk,hG k hk]) eU hB;refine wpIn_mono (AT _ rfl rfl rfl r _ W hi) ?_;rintro e a' W' ⟨s',r',⟨he,hr,H4⟩,cS⟩;have hd:=cS.ri.still rfl;have ht:=Um cS.ri (r:=r) (hp0:=rst hp rs) rfl (λk hk=>⟨hk,rfl⟩) jU oM H4 Sv once kL
 cases hv:tB P fn.results.toList s'.ts s'.hp with
 | none=>rw [hv] at hr;cases hr
 | some v =>
  have gU:=lW (fn:=fn) cS.ri.rel cS.ri.sat hv;rcases he with rfl|rfl
  ·exact ⟨hd,_,rfl,_,gU,⟨_,rfl⟩,rfl,ht.2⟩
  ·exact ⟨hd,_,rfl,_,gU,⟨_,rfl⟩,rfl,ht.2⟩

theorem U5 {h:FuncId} {fn:Func} {c:Code} {k:Nat} (hf:P.funcs[h]? = some fn) (hb:fn.body=some c)
  (hw:∀ (args:ca) (c₀:Frame) (cs:List Frame) (W:World),args.size=k->c₀.mode=.returning ->
   c.wpSIn (Fs P) 0 P (λe a Z7 W'=>(e=.normal\/e=.ret)/\a.defers=[]/\Z7=c₀::cs/\W'=W/\∃ v,(results fn a.tmps).run P W=.ok v W) { tmps:=args++Array.replicate (fn.ntmps - args.size) undef,defers:=[] } (c₀::cs) W)
  (args:ca) (W:World) (hk:args.size=k):CallsDIn (Fs P) 0 P h args .returning W λe u' W'=>(∃ v,e=.returned v)/\u'=.returning/\W'=W:=by
 refine callsDIn_of_wpSIn hf hb ⟨fn,hf⟩ λc₀ cs hu=>?_;intro b k' hb hr hF Ji;obtain ⟨e,a',Z7,w',hl,⟨he,hd,rfl,rfl,v,hv⟩,jf⟩:=hw args c₀ cs W hk hu b k' hb hr hF Ji;refine ⟨e,a',_,_,hl,?_,jf⟩;have hc:({ c₀ with mode:=.returning }:Frame)=c₀:=by rw [<-hu]
 rcases he with rfl|rfl
 ·exact Dn
 ·exact Dn

theorem RecF.under {h:FuncId} {bF:ca} {hp eG:Hp} {rs:List Nat} {pv:Value} {ws:cf} (hr:RecF P G h bF eG rs pv ws) (e:∀ k,(k<100\/k∈rs)->eG k=hp k):RecF P G h bF hp rs pv ws :=
 ⟨hr.fn,hr.enter,hr.back,by rw [<-qB e];exact hr.caught⟩

theorem Mv {n:Nat} {id t:Nat} {h:FuncId} {cs:Array Operand} {ty1 ty2:TypeId} {ps1 ps2:String} {af2:Array Edge} {Q:Exit->Act->World->Prop} {a:Act} {W:World} (ht:t<a.tmps.size)
  (hQ:Q .normal { a.put (some t) (.func (.func h) #[] (cs.map a.eval)) with defers:=⟨.fn (.func h) (cs.map a.eval),#[]⟩::a.defers } W) :
  (Code.region id [⟨some t,.makeFunc (.func h) #[] cs,ty1,ps1,#[],none⟩,⟨none,.defer ⟨.value (.tmp t),#[],#[]⟩,ty2,ps2,af2,none⟩].toArray false).wpIn (Fw P none) n P Q a W:=by
 refine wpIn_region_lit (wpListIn_plain rfl λK hK=>?_);refine ⟨λf hf=>by simp [Oper.about] at hf,?_⟩;have e:(Fw P none).round=none:=rfl;rw [e,Oper.semAt_none]
 have gU:(execOp a.eval ⟨some t,.makeFunc (.func h) #[] cs,ty1,ps1,#[],none⟩).run P W=.ok (.value (.func (.func h) #[] (cs.map a.eval))) W:=by
  simp [execOp,Instr.makeFunc]
 rw [gU];refine hK _ _ (wpListIn_plain rfl λK hK=>?_);refine ⟨λf hf=>by simp [Oper.about] at hf,?_⟩;rw [e,Oper.semAt_none];have Sq:(a.put (some t) (.func (.func h) #[] (cs.map a.eval))).eval (.tmp t)=.func (.func h) #[] (cs.map a.eval):=by simp [Act.eval,Act.put,ht]
 have gU:(execOp (a.put (some t) (.func (.func h) #[] (cs.map a.eval))).eval ⟨none,.defer ⟨.value (.tmp t),#[],#[]⟩,ty2,ps2,af2,none⟩).run P W=.ok (.defer ⟨.fn (.func h) (cs.map a.eval),#[]⟩) W:=by
  simp [execOp,resolve,Sq,Deferred.ofValue]
 dsimp only;rw [gU];exact hK _ _ (wpListIn_nil hQ)

inductive REnd
 | ret (v:Value) (ws:cf)
 | pan (pv:Value) (lF:List Nat) (QD:cf) (v:Value)
def REnd.res:REnd->Res
 | .ret v ws=>.ret v ws
 | .pan _ _ _ v=>.ret v []
def asV (P:Program) (G:Hp) (fn:Func) (h:FuncId) (kK:ca) (hp hp1:Hp) (out:REnd) (e:Exit) (s:GS):Prop :=
 match out with
 | .ret v ws=>(e=.normal\/e=.ret)/\tB P fn.results.toList s.ts s.hp=some v/\∀ k,dom hp k->s.hp k=bH hp ws k
 | .pan pv lF QD v=>e=.panic [{ v:=pv,recovered:=false }]/\tB P fn.results.toList s.ts (bH s.hp QD)=some v/\(∀ k,dom hp1 k->s.hp k=hp1 k)/\RecF P G h kK hp1 lF pv QD/\(∀ k,dom (rst hp1 lF) k->dom hp1 k) /\
   (∀ k∈ak QD,dom (rst hp1 lF) k/\100<=k/\¬dom hp k)/\(∀ k b,rst hp1 lF k=some b->b.ids (dom (rst hp1 lF)))

theorem MD {f h:FuncId} {fn:Func} {R0 rest:Code} {id t:Nat} {cs:Array Operand} {ty1 ty2:TypeId} {ps1 ps2:String} {af2:Array Edge} {args:ca} {hp hp1:Hp} {rs:List Nat} {ts1:fp} {B B1:Nat} {out:REnd} (kK:ca)
  (eg:c7 G) (hG:∀ k,k<100->hp k=G k) (hf:P.funcs[f]? = some fn)
  (hb:fn.body=some (.seq R0 (.seq (.region id [⟨some t,.makeFunc (.func h) #[] cs,ty1,ps1,#[],none⟩,⟨none,.defer ⟨.value (.tmp t),#[],#[]⟩,ty2,ps2,af2,none⟩].toArray false) rest))) (ht:t<fn.ntmps)
  (gC:∀ a w,(callFunc f a).run P w=.ok (.enter f a) w) (aa9:∃ pv hp rs ws,RecF P G h kK hp rs pv ws)
  (ha:∀ x∈args,aL (dom (rst hp rs)) x) (oM:∀ k b,rst hp rs k=some b->b.ids (dom (rst hp rs))) (eI:out.res.fits hp rs) (hn:args.size<=fn.ntmps) (hB:100<=B) (eU:∀ x,B<=x->rst hp rs x=none)
  (hR0:∀ C:Ctx,C.G=G->C.hp0=rst hp rs->C.Y=some .still->GW P C fn.ntmps [] none R0 ⟨λt=>args.getD t undef,rst hp rs,B,0⟩ λe s=>e=.normal/\s=⟨ts1,hp1,B1,0⟩)
  (aru:∀ k,dom (rst hp rs) k->hp1 k=rst hp rs k)
  (AK:∀ o∈cs.toList,okT ts1 o/\∃ t',o=.tmp t') (hcd:cs.map (gev ts1)=kK) (uq:∀ x∈kK,eh x=true)
  (AT:∀ (C:Ctx) (d:List Deferred),C.G=G->C.hp0=hp1->C.Y=some .still->GW P C fn.ntmps d none rest ⟨upd ts1 t (.func (.func h) #[] kK),hp1,B1,0⟩ (asV P G fn h kK (rst hp rs) hp1 out)) :
  Fun P G f args hp rs out.res:=by
 refine ⟨gC,ha,oM,eI,λr W kE jU jk bC=>callsIn_of_wp_defers hf hb ⟨fn,hf⟩ ?_⟩
 have hi:=Om (P:=P) (B:=B) (n:=fn.ntmps) (ts:=λt=>args.getD t undef) (a:={ tmps:=args.map (ren r)++Array.replicate (fn.ntmps - (args.map (ren r)).size) undef,defers:=[] }) eg aB rfl ?_ jU jk bC
  (λk hk=>by simp [rst,hk,hG k hk]) eU hB
 ·refine wpIn_seq (wpIn_mono (hR0 _ rfl rfl rfl r _ W hi) ?_);rintro e a1 W1 ⟨s1,r1,⟨rfl,rfl⟩,ot⟩;have Sp:a1.defers=[]:=ot.ri.still rfl
  have Sq:cs.map a1.eval=kK.map (ren r1):=by
   rw [<-hcd,gD];refine bY λo ho=>?_;obtain ⟨h1,t',rfl⟩:=AK o sr;have h2:nj (ts1 t'):=h1;have h3:=(ot.ri.rel t').resolve_left (λe=>DA);exact h3.1
  have zC:∀ x∈kK,aL (dom hp1) x:=λx hx=>by
   rw [<-hcd] at hx;obtain ⟨o,ho,rfl⟩:=eQ.1 hx;obtain ⟨h1,t',rfl⟩:=AK o sr;have h2:nj (ts1 t'):=h1;have h3:=(ot.ri.rel t').resolve_left (λe=>DA);exact h3.2
  refine wpIn_seq (Mv (by rw [ot.ri.size];exact ht) ?_);rw [Sq,Sp]
  have aw9:ren r1 (.func (.func h) #[] kK)=.func (.func h) #[] (kK.map (ren r1)):=by
   have e:kK.map (aF r1)=kK.map (ren r1):=bY λx hx=>(kA (uq x hx)).symm;simp [ren,aW,aw,e]
  have Ze:GI P ⟨jM W (imO r (rst hp rs)),hp1,r1,G,some .still⟩ fn.ntmps [⟨.fn (.func h) (kK.map (ren r1)),#[]⟩] r1 ⟨upd ts1 t (.func (.func h) #[] kK),hp1,B1,0⟩
    { a1.put (some t) (.func (.func h) #[] (kK.map (ren r1))) with defers:=[⟨.fn (.func h) (kK.map (ren r1)),#[]⟩] } W1:=by
   have:=ot.ri.put (dst:=some t) (v:=.func (.func h) #[] kK) (λd hd=>by cases hd;exact ht) ⟨zS,λx hx=>(ky (uq x hx)).1 (zC x hx)⟩;rw [aw9] at this;obtain ⟨S,ms,h1,h2,h3,h4,h5⟩:=ot.ri.ext;exact ⟨⟨this.size,this.rel,this.sat,this.inj,⟨S,[],h1,h2,h3,⟨rfl,jX⟩,zS⟩,λi hi=>⟨hi,rfl⟩,this.glob,this.low⟩,ot.free,ot.low,eg,λy hy=>DM⟩
  refine wpIn_mono (AT _ _ rfl rfl rfl r1 _ W1 Ze) ?_;rintro e a' W' ⟨s',r',aiU,cS⟩;have hd:=cS.ri.still rfl;have hag:∀ k,dom (rst hp rs) k->dom hp1 k/\r1 k=r k:=λk hk=>⟨by unfold dom at hk |-;rw [aru k hk];exact hk,(ot.ri.keep k hk).2⟩
  have aiS:∀ (W:World) g,(Target.fn (.func h) (kK.map (ren r1))).leads P W #[]=some g->(Fw P none).fn g:=λW g hg=>by
   simp [Target.leads] at hg;subst hg;obtain ⟨_,_,_,_,hr⟩:=aa9;exact hr.fn
  have hinv:∀ W:World,(invoke (.fn (.func h) (kK.map (ren r1))) #[]).run P W=.ok (.enter h (kK.map (ren r1))) W:=λW=>by
   obtain ⟨_,_,_,_,hr⟩:=aa9;simp [invoke,hr.enter]
  cases out with
  | ret v ws =>
   obtain ⟨he,hr,H4⟩:=aiU
   have key:LeavesIn (Fw P none) 0 P fn a'.tmps ((Res.ret v ws).holds r (dom (rst hp rs)) W) a'.defers .returning W':=by
    rw [hd];refine leavesIn_cons zS (λh=>fj) (hinv W') (aiS W') ?_;obtain ⟨_,_,_,_,Ku⟩:=aa9;refine CallsDIn.mono (Ku.back _ W' zS) ?_;rintro e u' gS ⟨⟨v',rfl⟩,rfl,rfl⟩;have gU:=lW (fn:=fn) cS.ri.rel cS.ri.sat hr
    have dk:=Um cS.ri (r:=r) (hp0:=rst hp rs) rfl hag jU oM H4 (λk hk=>by
     have:=eI.2.1 k hk;unfold dom rst at *;simp [this.1];exact this.2.1) eI.2.2.1 eI.2.2.2
    exact EI
   rcases he with rfl|rfl<;>exact key
  | pan pv lF QD v =>
   obtain ⟨rfl,hr,H4,my,axa,pf,aw8⟩:=aiU;show LeavesIn (Fw P none) 0 P fn a'.tmps ((Res.ret v []).holds r (dom (rst hp rs)) W) a'.defers (.panicking _) W';rw [hd];refine leavesIn_cons zS (λh=>fj) (hinv W') (aiS W') ?_;have Zj:∀ k,dom hp1 k->r' k=r1 k:=λk hk=>(cS.ri.keep k hk).2
   have ai1:∀ k,dom (rst hp1 lF) k->s'.hp k=rst hp1 lF k:=λk hk=>by
    rw [H4 k (axa k hk)];unfold dom rst at hk;unfold rst;split
    ·rfl
    ·rename_i hh;simp [hh] at hk
   have eK:kK.map (ren r1)=kK.map (ren r'):=bY λx hx=>jQ (λk hk=>(Zj k hk).symm) (zC x hx);rw [eK];have aao:∀ k,dom (rst hp1 lF) k->dom s'.hp k:=λk hk=>by unfold dom;rw [ai1 k hk];exact hk
   refine CallsDIn.mono (my.caught r' W' (λk b hk=>?_) (λk l hk hl=>cS.ri.inj k l (aao k hk) (aao l hl)) (λk hk jR=>cS.ri.low k hk (aao k jR))) ?_
   ·refine ⟨(cS.ri.sat k b ?_).1,aw8 k b hk⟩;rw [ai1 k iV];exact hk
   rintro e u' gS ⟨⟨v',rfl⟩,rfl,AV⟩;have AU:settle (ado pv)=.returning:=rfl;show LeavesIn _ _ _ _ _ _ [] (settle (ado pv)) gS;rw [AU]
   have HT:RI ⟨jM W (imO r (rst hp rs)),hp1,r1,G,some .still⟩ fn.ntmps [⟨.fn (.func h) (kK.map (ren r1)),#[]⟩] r' (cJ s'.ts none undef) (bH s'.hp (QD++[])) s'.yc (a'.put none (ren r' undef)) gS:=by
    refine cS.ri.after (e:=⟨undef,[],QD,[],none,false⟩) (λ_ h=>fj) (λ_ _=>rfl) (mY _) ?_ (λk hk=>⟨aao k (pf k hk).1,(pf k hk).2.1⟩) ai;have mono:∀ k,eo (dom (rst hp1 lF)) [] k->eo (dom s'.hp) [] k:=λk hk=>hk.imp (aao k) (λh=>h);exact ⟨AV.os,AV.tape,AV.output,AV.size,AV.same,λp hp1=>⟨(AV.has p hp1).1,Blk.ids_mono mono (AV.has p hp1).2⟩,AV.fresh,AV.apart⟩
   simp only [eP] at HT;have gU:=lW (fn:=fn) HT.rel HT.sat hr
   have dk:=Um HT (r:=r) (hp0:=rst hp rs) (ws:=[]) rfl hag jU oM (λk hk=>by
    simp only [bH];rw [da (λhm=>(pf k hm).2.2 hk),H4 k (hag k hk).1,aru k hk]) ai zS zS
   exact EI
 ·intro t
  right
  exact Gc
end
theorem wX {p:Prop} (h:p:=by rw [e3];exact om):p:=h
theorem Ga {p:Prop} (h:p:=by
 obtain ⟨y,hy,rfl⟩:=eQ.1 hx;exact AW (λk hk=>h.dom1 hk) (hi.ids y hy)):p:=h
theorem FF {p:Prop} (h:p:=by
 obtain ⟨q,c,h1,rfl,rfl⟩:=h.back eg hG k b hb;exact Blk.ids_rn (λk hk=>h.dom1 hk) (hi.closed q c h1)):p:=h
theorem tc {p:Prop} (h:p:=by
 rw [gD];exact bY λx _=>lx r ρ x):p:=h
theorem Hm {p:Prop} (h:p:=by
 exact H6 (ρ p.1,p.2.rn ρ) (by simp only [rnL,aK];exact ⟨p,hp1,rfl⟩)):p:=h
section
variable {P:Program} {G:Hp}
theorem Ia {ρ:dR} {D D':iH} (h:∀ k,D k->D' (ρ k)) {v:Value} (hv:cQ D v):cQ D' (aW ρ v):=by
 cases v with
 | agg cs =>
  intro x hx;obtain ⟨y,hy,rfl⟩:=eQ.1 hx;exact za h (hv y hy)
 | func f a b=>exact za (v:=.func f a b) h hv
 | iface t v=>exact za (v:=.iface t v) h hv
 | pointer p=>cases p<;>first|exact h _ hv|trivial
 | slice p _ _=>cases p<;>first|exact h _ hv|trivial
 | map p=>cases p<;>first|exact h _ hv|trivial
 | _=>trivial
theorem AW {ρ:dR} {D D':iH} (h:∀ k,D k->D' (ρ k)) {v:Value} (hv:aL D v):aL D' (ren ρ v):=by
 cases v with
 | tuple vs =>
  intro x hx;obtain ⟨y,hy,rfl⟩:=eQ.1 hx;exact Ia h (hv y hy)
 | agg cs=>exact Ia (v:=.agg cs) h hv
 | func f a b=>exact Ia (v:=.func f a b) h hv
 | iface t v=>exact Ia (v:=.iface t v) h hv
 | pointer p=>cases p<;>first|exact h _ hv|trivial
 | slice p _ _=>cases p<;>first|exact h _ hv|trivial
 | map p=>cases p<;>first|exact h _ hv|trivial
 | _=>trivial
theorem Rn.bflat {ρ:dR} {hp:Hp} (eg:c7 G) (hG:∀ k,k<100->hp k=G k) {k:Nat} {b:Blk} (hk:k<100) (hb:hp k=some b):b.rn ρ=b:=by
 exact sX
theorem Rn.back {ρ:dR} {hp eG:Hp} {rs:List Nat} (eg:c7 G) (hG:∀ k,k<100->hp k=G k) (h:Rn ρ hp eG rs) (k:Nat) (b:Blk) (hb:rst eG (rs.map ρ) k=some b):∃ q c,rst hp rs q=some c/\ρ q=k/\b=c.rn ρ:=by
 unfold rst at hb;by_cases h1:k<100
 ·simp only [h1,j8,aV] at hb;have hl:=h.low k h1;rw [hl.2] at hb;exact ⟨k,b,by simp [rst,h1,hb],hl.1,(Rn.bflat eg hG h1 hb).symm⟩
 ·by_cases hm:k∈rs.map ρ
  ·exact FN
  ·simp [h1,hm] at hb
theorem Rn.mem {hp:Hp} {rs:List Nat} {k:Nat} (hk:dom (rst hp rs) k) (h1:100<=k):k∈rs:=by
 exact EN
theorem Rn.sat {ρ:dR} {hp eG:Hp} {rs:List Nat} (eg:c7 G) (hG:∀ k,k<100->hp k=G k) (h:Rn ρ hp eG rs) (oM:∀ k b,rst hp rs k=some b->b.ids (dom (rst hp rs))) {r:dR} {W:World}
  (jU:Sat r (dom (rst eG (rs.map ρ))) (rst eG (rs.map ρ)) W) (jk:Inj r (dom (rst eG (rs.map ρ)))) (bC:∀ k,k<100->dom (rst eG (rs.map ρ)) k->r k=k) :
  Sat (λk=>r (ρ k)) (dom (rst hp rs)) (rst hp rs) W/\Inj (λk=>r (ρ k)) (dom (rst hp rs))/\∀ k,k<100->dom (rst hp rs) k->r (ρ k)=k:=by
 refine ⟨λk b hk=>⟨?_,oM k b hk⟩,λk l hk hl e=>?_,λk hk hd=>?_⟩
 ·have hd:dom (rst hp rs) k:=by unfold dom;rw [hk];simp
  have vc:=h.dom1 hd;unfold dom at vc
  cases hb:rst eG (rs.map ρ) (ρ k) with
  | none=>exact absurd hb vc
  | some b' =>
   have e:b'=b.rn ρ:=by
    unfold rst at hb hk;by_cases h1:k<100
    ·have hl:=h.low k h1;simp only [h1,j8,aV] at hk;rw [hl.1] at hb;simp only [h1,j8,aV] at hb;rw [hl.2,hk] at hb;cases hb;exact (Rn.bflat eg hG h1 hk).symm
    ·exact G8
   have:=(jU _ b' hb).1;rw [e,Blk.rn_obj] at this;exact this
 ·have e2:=jk _ _ (h.dom1 hk) (h.dom1 hl) e;by_cases h1:k<100
  ·by_cases h2:l<100
   ·rw [(h.low k h1).1,(h.low l h2).1] at e2;exact e2
   ·have:=h.big l (Rn.mem hl zO) zO;rw [(h.low k h1).1] at e2;omega
  ·by_cases h2:l<100
   ·have:=h.big k (Rn.mem hk zO) zO;rw [(h.low l h2).1] at e2;omega
   ·exact h.inj k (Rn.mem hk zO) l (Rn.mem hl zO) zO zO e2
 ·have:=h.dom1 hd;rw [(h.low k hk).1] at this |-;exact bC k hk this
def rnL (ρ:dR) (ws:cf):List (Nat×Blk):=ws.map λp=>(ρ p.1,p.2.rn ρ)
theorem wJ {ρ:dR} {ws:cf} {k:Nat} (h:k∈ak (rnL ρ ws)):∃ q∈ak ws,ρ q=k:=by
 simp only [ak,rnL,rk,aK,Function.comp] at h |-;obtain ⟨p,hp,rfl⟩:=h;exact ⟨p.1,⟨p,hp,rfl⟩,rfl⟩
theorem Fun.rn {f:FuncId} {args:ca} {hp eG:Hp} {rs:List Nat} {v:Value} {ws:cf} (ρ:dR) (eg:c7 G) (hG:∀ k,k<100->hp k=G k) (h:Rn ρ hp eG rs) (hi:Fun P G f args hp rs (.ret v ws)) :
  Fun P G f (args.map (ren ρ)) eG (rs.map ρ) (.ret (ren ρ v) (rnL ρ ws)):=by
 refine ⟨hi.enter,λx hx=>?_,λk b hb=>?_,⟨AW (λk hk=>h.dom1 hk) hi.fits.1,λk hk=>?_,λk b c h1 h2=>?_,λp hp1=>?_⟩,λr W kE jU jk bC=>?_⟩
 ·exact Ga
 ·exact FF
 ·obtain ⟨q,hq,rfl⟩:=wJ hk;have h1:=hi.fits.2.1 q hq;obtain ⟨c,e1,e2⟩:=h.at' q h1.1 h1.2.2;exact ⟨aK.2 ⟨q,h1.1,rfl⟩,by unfold dom;rw [e2];simp,h.big q h1.1 h1.2.2⟩
 ·simp only [rnL,aK,ij] at h1 h2;obtain ⟨p,hp1,e1,rfl⟩:=h1;obtain ⟨q,om,e2,rfl⟩:=h2;have k1:=hi.fits.2.1 p.1 (aC.2 ⟨p,hp1,rfl⟩);have k2:=hi.fits.2.1 q.1 (aC.2 ⟨q,om,rfl⟩);have e3:=h.inj p.1 k1.1 q.1 k2.1 k1.2.2 k2.2.2 (e1.trans e2.symm);have e4:=hi.fits.2.2.1 p.1 p.2 q.2 hp1 wX;rw [e4]
 ·simp only [rnL,aK] at hp1;obtain ⟨p,hp1,rfl⟩:=hp1;exact Blk.ids_rn (λk hk=>h.dom1 hk) (hi.fits.2.2.2 p hp1)
 ·obtain ⟨s1,s2,s3⟩:=h.sat eg hG hi.closed jU jk bC;have gU:=hi.run (λk=>r (ρ k)) W kE s1 s2 s3
  have ha:(args.map (ren ρ)).map (ren r)=args.map (ren λk=>r (ρ k)):=by
   exact tc
  rw [ha];refine gU.mono λe W' ⟨he,ht⟩=>⟨?_,ht.os,ht.tape,ht.output,ht.size,λk hk H6=>ht.same k hk λp hp1=>?_,λp hp1=>?_,zS,zS⟩
  ·rw [he,lx]
  ·exact Hm
  ·simp only [eP,rnL,aK] at hp1;obtain ⟨p,hp1,rfl⟩:=hp1;have h1:=ht.has p pG;exact ⟨by rw [Blk.rn_obj];exact h1.1,Blk.ids_rn (D:=eo (dom (rst hp rs)) []) (λk hk=>by rw [wo] at hk |-;exact h.dom1 hk) h1.2⟩
theorem Ret.up {G':Hp} {f:FuncId} {args:ca} {v:Value} (h:Ret P G f args v) (hg:∀ W,GOK G' W->GOK G W):Ret P G' f args v:=⟨h.1,h.2.1,h.2.2.1,λW hW=>h.2.2.2 W (hg W hW)⟩
theorem BI.up {G':Hp} {f:FuncId} {args:ca} {o:Out} (h:BI P G f args o) (hg:∀ W,GOK G' W->GOK G W):BI P G' f args o:=⟨h.1,h.2.1,h.2.2.1,λW hW=>h.2.2.2 W (hg W hW)⟩
end
theorem GC {p:Prop} (h:p:=by
 refine ⟨AW (afX ns) f1,λk hk=>?_,λk b c h1 h2=>?_,λp hp1=>?_⟩
 ·obtain ⟨q,hq,rfl⟩:=wJ hk;exact Xy v ns hR q hq
 ·simp only [rnL,aK,ij] at h1 h2;obtain ⟨p,hp1,e1,rfl⟩:=h1;obtain ⟨q,om,e2,rfl⟩:=h2;have e3:=Q0 v ns hR p.1 (aC.2 ⟨p,hp1,rfl⟩) q.1 (aC.2 ⟨q,om,rfl⟩) (e1.trans e2.symm);rw [f3 p.1 p.2 q.2 hp1 wX]
 ·simp only [rnL,aK] at hp1;obtain ⟨p,hp1,rfl⟩:=hp1;exact Blk.ids_rn (afX ns) (f4 p hp1)):p:=h
theorem Gq {p:Prop} (h:p:=by
 show (match (ak ns).find? (λl=>ρ l==ρ k) with|some k=>r1 k|none=>r (ρ k))=r1 k
 cases hf:(ak ns).find? (λl=>ρ l==ρ k) with
 | none=>have:=List.find?_eq_none.1 hf k hk;simp at this
 | some l =>
  have h1:=we hf;have h2:=vY hf;simp only [beq_iff_eq] at h1;rw [Q0 v ns hR l h2 k hk h1]):p:=h
theorem Hg {p:Prop} (h:p:=by
 simp only [bq,rnL,aK] at hp1;obtain ⟨p,hp1,rfl⟩:=hp1;have hh:=ht.has p pG;refine ⟨?_,Blk.ids_rn (afX ns) hh.2⟩;rw [Blk.rn_obj,Blk.obj_congr e3 hh.2];show W'.heap[r2 (ρ p.1)]? = _;rw [e1 _ (aC.2 ⟨p,hp1,rfl⟩)];exact hh.1):p:=h
theorem Fo {p:Prop} (h:p:=by
 simp only [rnL,aK] at hp1;obtain ⟨p,hp1,rfl⟩:=hp1;show W.heap.size<=r2 (ρ p.1);rw [e1 _ (aC.2 ⟨p,hp1,rfl⟩)];exact ht.fresh p hp1):p:=h
theorem Hi {p:Prop} (h:p:=by
 simp only [rnL,aK] at hp1 om;obtain ⟨p,hp1,rfl⟩:=hp1;obtain ⟨q,om,rfl⟩:=om;have k1:=aC.2 ⟨p,hp1,rfl⟩;have k2:=aC.2 ⟨q,om,rfl⟩;have arl:r2 (ρ p.1)=r2 (ρ q.1):=hpq;rw [e1 _ k1,e1 _ k2] at arl;have:=ht.apart p hp1 q om arl;show ρ p.1=ρ q.1;rw [this]):p:=h
abbrev we := @List.find?_some
abbrev vY := @List.mem_of_find?_eq_some
abbrev Ij := Value -> List (Nat × Blk) -> Prop
structure FunS (P:Program) (G:Hp) (f:FuncId) (args:ca) (hp:Hp) (rs:List Nat) (R:Ij):Prop where
 enter:∀ a w,(callFunc f a).run P w=.ok (.enter f a) w
 ids:∀ x∈args,aL (dom (rst hp rs)) x
 closed:∀ k b,rst hp rs k=some b->b.ids (dom (rst hp rs))
 fits:∀ v ns,R v ns->aL (eo (dom (rst hp rs)) ns) v/\(∀ k∈ak ns,100<=k/\¬dom (rst hp rs) k)/\(∀ k b c,(k,b)∈ns->(k,c)∈ns->b=c)/\∀ p∈ns,p.2.ids (eo (dom (rst hp rs)) ns)
 run:∀ r W,GOK G W->Sat r (dom (rst hp rs)) (rst hp rs) W->Inj r (dom (rst hp rs))->(∀ k,k<100->dom (rst hp rs) k->r k=k) ->
  l7 P f (args.map (ren r)) W λe W'=>∃ v ns r',R v ns/\(∀ k,dom (rst hp rs) k->r' k=r k)/\e=.returned (ren r' v)/\Turn r' (eo (dom (rst hp rs)) ns) W W' [] ns
section
variable {P:Program} {G:Hp}
theorem FunS.under {f:FuncId} {args:ca} {hp eG:Hp} {rs:List Nat} {R:Ij} (h:FunS P G f args eG rs R) (e:∀ k,(k<100\/k∈rs)->eG k=hp k):FunS P G f args hp rs R:=by
 have er:rst eG rs=rst hp rs:=qB e;exact ⟨h.enter,by rw [<-er];exact h.ids,by rw [<-er];exact h.closed,by rw [<-er];exact h.fits,by rw [<-er];exact h.run⟩
def RR (ρ:dR) (R:Ij) (v':Value) (ns':cf):Prop:=∃ v ns,R v ns/\v'=ren ρ v/\ns'=rnL ρ ns
theorem Bb {ρ:dR} {ns:cf} {k:Nat} (h:k∈ak ns):ρ k∈ak (rnL ρ ns):=by
 obtain ⟨p,hp,rfl⟩:=aC.1 h;exact aC.2 ⟨(ρ p.1,p.2.rn ρ),aK.2 ⟨p,hp,rfl⟩,rfl⟩
theorem FunS.rn {f:FuncId} {args:ca} {hp eG:Hp} {rs:List Nat} {R:Ij} (ρ:dR) (eg:c7 G) (hG:∀ k,k<100->hp k=G k) (h:Rn ρ hp eG rs) (hi:FunS P G f args hp rs R)
  (Xy:∀ v ns,R v ns->∀ k∈ak ns,100<=ρ k/\¬dom (rst eG (rs.map ρ)) (ρ k)) (Q0:∀ v ns,R v ns->∀ k∈ak ns,∀ l∈ak ns,ρ k=ρ l->k=l) :
  FunS P G f (args.map (ren ρ)) eG (rs.map ρ) (RR ρ R):=by
 have afX:∀ ns,∀ k,eo (dom (rst hp rs)) ns k->eo (dom (rst eG (rs.map ρ))) (rnL ρ ns) (ρ k):=λns k hk=>hk.elim (λh1=>.inl (h.dom1 h1)) (λh1=>.inr (Bb h1));refine ⟨hi.enter,λx hx=>?_,λk b hb=>?_,λv' ns' Ry=>?_,λr W kE jU jk bC=>?_⟩
 ·exact Ga
 ·exact FF
 ·obtain ⟨v,ns,hR,rfl,rfl⟩:=Ry;obtain ⟨f1,f2,f3,f4⟩:=hi.fits v ns hR;exact GC
 ·obtain ⟨s1,s2,s3⟩:=h.sat eg hG hi.closed jU jk bC;have gU:=hi.run (λk=>r (ρ k)) W kE s1 s2 s3
  have ha:(args.map (ren ρ)).map (ren r)=args.map (ren λk=>r (ρ k)):=by
   exact tc
  rw [ha];refine gU.mono λe W' ⟨v,ns,r1,hR,Zj,he,ht⟩=>?_;obtain ⟨f1,f2,f3,f4⟩:=hi.fits v ns hR;let r2:Nat->Nat:=λk'=>match (ak ns).find? (λk=>ρ k==k') with|some k=>r1 k|none=>r k'
  have e1:∀ k∈ak ns,r2 (ρ k)=r1 k:=λk hk=>by
   exact Gq
  have e2:∀ k,dom (rst eG (rs.map ρ)) k->r2 k=r k:=λk hk=>by
   show (match (ak ns).find? (λl=>ρ l==k) with|some k=>r1 k|none=>r k)=r k
   cases hf:(ak ns).find? (λl=>ρ l==k) with
   | none=>rfl
   | some l =>
    have h1:=we hf;have h2:=vY hf;simp only [beq_iff_eq] at h1;exact absurd hk (h1▸(Xy v ns hR l h2).2)
  have e3:∀ k,eo (dom (rst hp rs)) ns k->r2 (ρ k)=r1 k:=λk hk=>by
   by_cases hm:k∈ak ns
   ·exact e1 k hm
   ·have hd:=hk.resolve_right hm;rw [e2 _ (h.dom1 hd),Zj k hd]
  refine ⟨ren ρ v,rnL ρ ns,r2,⟨v,ns,hR,rfl,rfl⟩,e2,?_,ht.os,ht.tape,ht.output,ht.size,λk hk _=>ht.same k hk zS,λp hp1=>?_,λp hp1=>?_,λp hp1 q om hpq=>?_⟩
  ·rw [he,lx,jQ e3 f1]
  ·exact Hg
  ·exact Fo
  ·exact Hi
theorem VV {f:FuncId} {fn:Func} {c:Code} {args:ca} {hp:Hp} {rs:List Nat} {R:Ij} {B:Nat} (eg:c7 G) (hG:∀ k,k<100->hp k=G k) (hf:P.funcs[f]? = some fn) (hb:fn.body=some c) (gC:∀ a w,(callFunc f a).run P w=.ok (.enter f a) w)
  (ha:∀ x∈args,aL (dom (rst hp rs)) x) (oM:∀ k b,rst hp rs k=some b->b.ids (dom (rst hp rs)))
  (eI:∀ v ns,R v ns->aL (eo (dom (rst hp rs)) ns) v/\(∀ k∈ak ns,100<=k/\¬dom (rst hp rs) k)/\(∀ k b c,(k,b)∈ns->(k,c)∈ns->b=c)/\∀ p∈ns,p.2.ids (eo (dom (rst hp rs)) ns))
  (hn:args.size<=fn.ntmps) (hB:100<=B) (eU:∀ x,B<=x->rst hp rs x=none)
  (h:∀ C:Ctx,C.G=G->C.hp0=rst hp rs->C.Y=none->GW P C fn.ntmps [] none c ⟨λt=>args.getD t undef,rst hp rs,B,0⟩ λe s=>(e=.normal\/e=.ret)/\(∀ k,dom (rst hp rs) k->s.hp k=rst hp rs k) /\
   ∃ v ns ρ,R v ns/\(∀ k,dom (rst hp rs) k->ρ k=k)/\(∀ p∈ns,¬dom (rst hp rs) (ρ p.1)/\100<=ρ p.1)/\(∀ p∈ns,∀ q∈ns,ρ p.1=ρ q.1->p.1=q.1)/\tB P fn.results.toList s.ts s.hp=some (ren ρ v)/\∀ p∈ns,s.hp (ρ p.1)=some (p.2.rn ρ)):FunS P G f args hp rs R:=by
 refine ⟨gC,ha,oM,eI,λr W kE jU aiP bC=>callsIn_of_wp_marks hf hb ⟨fn,hf⟩ ?_⟩
 have RL:∀ k,dom (rst hp rs) k->r k<W.heap.size:=λk hk=>by
  exact yx
 let im:Nat->Prop:=λj=>∃ i,dom (rst hp rs) i/\r i=j;let C:Ctx:=⟨jM W im,rst hp rs,r,G,none⟩
 have hi:GI P C fn.ntmps [] r ⟨λt=>args.getD t undef,rst hp rs,B,0⟩ { tmps:=args.map (ren r)++Array.replicate (fn.ntmps - (args.map (ren r)).size) undef,defers:=[] } W:=by
  exact Ha
 refine wpIn_mono (h C rfl rfl rfl r _ W hi) ?_;rintro e a' W' ⟨s',r',⟨he,H4,v,ns,ρ,KG,hρ0,hρ,jk,hr,hns⟩,cS⟩;obtain ⟨S,ms,⟨hS,os,tape,output,size,wH⟩,xR,ND,⟨vp,B4⟩,rX⟩:=cS.ri.ext;have pY:∀ i,dom (rst hp rs) i->dom s'.hp i/\r' i=r i:=cS.ri.keep;obtain ⟨_,zN,_,hbl⟩:=eI v ns KG
 have mine:∀ gS:World,(∀ k,k∉ms->gS.heap[k]? = W'.heap[k]?)->∀ i b,s'.hp i=some b->gS.heap[r' i]? = some (b.obj r'):=λgS hW i b hb=>by
  exact xZ
 have dk:∀ gS:World,gS.heap.size=W'.heap.size->gS.os=W'.os->gS.tape=W'.tape->gS.output=W'.output->(∀ k,k∉ms->gS.heap[k]? = W'.heap[k]?) ->
   LeavesIn (Fw P none) 0 P fn a'.tmps (λe W'=>∃ v ns r',R v ns/\(∀ k,dom (rst hp rs) k->r' k=r k)/\e=.returned (ren r' v)/\Turn r' (eo (dom (rst hp rs)) ns) W W' [] ns) [] .returning gS:=λgS e1 e2 e3 e4 e5=>by
  have tU:Sat r' (dom s'.hp) s'.hp gS:=λk b hk=>⟨mine gS e5 k b hk,(cS.ri.sat k b hk).2⟩
  have gU:=lW (fn:=fn) cS.ri.rel tU hr;rw [lx] at gU;refine ⟨_,gU,v,ns,λk=>r' (ρ k),KG,λk hk=>by show r' (ρ k)=r k;rw [hρ0 k hk];exact (pY k hk).2,rfl,?_⟩;refine ⟨e2.trans os,e3.trans tape,e4.trans output,sS,λk hk _=>?_,λp hp1=>?_,λp hp1=>?_,λp hp1 q om hpq=>?_⟩
  ·exact Em
  ·have hp1:p∈ns:=by simpa using hp1
   refine ⟨?_,hbl p hp1⟩;have:=mine gS e5 _ _ (hns p hp1);rw [Blk.rn_obj] at this;exact this
  ·exact Fx
  ·exact Ef
 exact nO
end
section
variable {P:Program} {C:Ctx} {n:Nat} {d:List Deferred} {ro:Option Nat} {s:GS} {K:l6}
theorem At {r:dR} {ts:fp} {hp:Hp} {yc:Nat} {a:Act} {W:World} {mn:Nat} {o:Oper} {c:Call} {f:Operand} {g:FuncId} {cap:ca} {rs:List Nat} {R:Ij} {next:Act->World->Prop} {Q:Exit->Act->World->Prop}
  (eg:c7 C.G) (h:RI C n d r ts hp yc a W) (hd:∀ dd,o.dst=some dd->dd<n)
  (ho:o.op=.call c) (hc:c.callee=.value f) (hf:okT ts f) (Kr:gev ts f=.func (.func g) #[] cap) (Zc:cap.all eh=true) (ha:∀ x∈c.args.toList,okX ts hp x) (hr:FunS P C.G g (c.args.map (gev ts)++cap) hp rs R)
  (CP:∀ v ns,R v ns->∀ k∈ak ns,hp k=none)
  (hn:∀ v ns,R v ns->∀ r' a' W',RI C n d r' (cJ ts o.dst v) (bH hp ns) yc a' W'->next a' W'):o.wpIn (Fw P ro) mn P a W next Q:=by
 have hR:=h.rel;have hS:=h.sat;have bC:=h.low
 have hD:∀ k,dom (rst hp rs) k->dom hp k:=λk hk=>by
  unfold dom at hk |-
  cases hb:rst hp rs k with
  | none=>exact absurd hb hk
  | some b=>rw [mu hb];simp
 have hRo:Ix o r (dom hp) ts a:=λt _=>hR t;have h1:=ev hRo (x:=f) so (Ie (hp:=hp) hf) bC (λ_ _ h=>h);rw [Kr] at h1;have h3:a.eval f=.func (.func g) #[] (cap.map (aF r)):=sG
 have n5:c.args.map a.eval=(c.args.map (gev ts)).map (ren r):=by
  rw [gD];exact bY λx hx=>(ev hRo (x:=x) sQ (ha x cG) bC (λ_ _ h=>h)).1
 have gU:(execOp a.eval o).run P W=.ok (.enter g ((c.args.map (gev ts)).map (ren r)++cap.map (aF r))) W:=by
  exact Gv
 have hS':Sat r (dom (rst hp rs)) (rst hp rs) W:=λk b hk=>⟨(hS k b (mu hk)).1,hr.closed k b hk⟩
 have ND:Sat r (dom hp) (rst hp rs) W:=λk b hk=>hS k b (mu hk);have gC:=hr.run r W (Tk eg (λk hk=>h.glob k hk) ND bC hD) hS' (λk l hk hl=>h.inj k l (hD k hk) (hD l hl)) (λk hk hd=>bC k hk (hD k hd));have eK:∀ x∈cap,ren r x=aF r x:=λx hx=>kA (dt.1 Zc x hx)
 have e2:(c.args.map (gev ts)).map (ren r)++cap.map (aF r)=(c.args.map (gev ts)++cap).map (ren r):=by
  rw [vP];congr 1;exact bY λx hx=>(eK x hx).symm
 refine lz (R:=λu W'=>next (a.put o.dst u) W') (Rp:=λ_ _=>False) lC ?_ (λu W' h=>h) (λpv W' h=>h.elim);unfold tG;rw [gU];dsimp only;rw [e2];refine gC.mono λe gS he=>?_;obtain ⟨v,ns,r1,KG,Zj,rfl,ht⟩:=he;obtain ⟨f1,f2,f3,f4⟩:=hr.fits v ns KG;have eU:=CP v ns KG;let r2:Nat->Nat:=λk=>if k∈ak ns then r1 k else r k
 have e0:∀ k,k∈ak ns->r2 k=r1 k:=λk hk=>by simp [r2,hk]
 have e1:∀ k,eo (dom (rst hp rs)) ns k->r2 k=r1 k:=λk hk=>by
  by_cases hm:k∈ak ns
  ·exact e0 k hm
  ·simp only [r2,ae hm];exact (Zj k (hk.resolve_right hm)).symm
 have abB:∀ k,eo (dom (rst hp rs)) ns k->eo (dom hp) ns k:=λk hk=>hk.imp (hD k) id;have e3:∀ k,dom hp k->r2 k=r k:=λk hk=>by simp only [r2,ae (λh=>hk (eU k h))]
 have hv:ren r1 v=ren r2 v:=(jQ e1 f1).symm;show next (a.put o.dst (ren r1 v)) gS
 rw [hv];refine hn v ns KG r2 _ _ ?_
 have:=h.after (dst:=o.dst) hd (e:=⟨v,[],[],ns,none,false⟩) e3 (jd abB f1) ⟨ht.os,ht.tape,ht.output,ht.size,λk hk _=>ht.same k hk zS,λp hp1=>?_,λp hp1=>by rw [e0 _ (aC.2 ⟨p,hp1,rfl⟩)];exact ht.fresh p hp1,
  λp hp1 q om h=>ht.apart p hp1 q om (by rw [<-e0 _ (aC.2 ⟨p,hp1,rfl⟩),<-e0 _ (aC.2 ⟨q,om,rfl⟩)];exact h)⟩ ai (λk hk=>⟨eU k hk,(f2 k hk).1⟩)
 ·exact Rh
 ·have hp1:p∈ns:=by simpa using hp1
  have hh:=ht.has p pG;rw [e0 _ (aC.2 ⟨p,hp1,rfl⟩),Blk.obj_congr e1 hh.2];exact ⟨hh.1,Blk.ids_mono abB hh.2⟩
end
theorem xp {p:Prop} (h:p:=by rw [n5];exact hr.under λq hq=>hq.elim (h2 q) (h1 q)):p:=h
theorem yH {p:Prop} (h:p:=by
 rw [ao _ _ (λe=>zO)];exact hf x zO):p:=h
theorem Hb {p:Prop} (h:p:=by
 rw [da (λhm=>by have:=tS v ns KG x hm;omega)];exact CP x zO):p:=h
section
variable {P:Program} {C:Ctx} {n:Nat} {d:List Deferred} {ro:Option Nat} {s:GS} {K:l6}
def GL (P:Program) (C:Ctx) (n:Nat) (d:List Deferred) (ro:Option Nat) (ops:Array Oper) (base k:Nat) (l:og) (ts:fp) (hp:Hp) (yc:Nat) (K:l6):Prop :=
 ∀ r a W,RI C n d r ts hp yc a W->(∀ x,base+8*k<=x->hp x=none)->100<=base->c7 C.G->(∀ y,C.Y=some y->ux P C y)->wpListIn (Fw P ro) 0 P ops (λe a' W'=>∃ s' r',K e s'/\GI P C n d r' s' a' W') l a W
theorem uv {id:Nat} {l:og} (h:GL P C n d ro l.toArray s.B 0 l s.ts s.hp s.yc K):GW P C n d ro (.region id l.toArray false) s K:=λr a W hi =>
 wpIn_region_lit (h r a W hi.ri sR hi.low hi.flat hi.rounds)
theorem cu {ops:Array Oper} {base k:Nat} {ts:fp} {hp:Hp} {yc:Nat} (h:K .normal ⟨ts,hp,base+8*k,yc⟩):GL P C n d ro ops base k [] ts hp yc K:=λr a W hi hf hb hG hR =>
 wpListIn_nil ⟨⟨ts,hp,_,yc⟩,r,h,hi,hf,by show 100<=base+8*k;omega,hG,hR⟩
theorem aeL {l0 l:og} {base k:Nat} {ts:fp} {hp:Hp} {yc:Nat} (j:Nat) (pn:List FuncId) (hl:l=l0.drop k) (hk:k<=l0.length) (jJ:(pW n (l.take j)&&Av P (l.take j))=true)
  (h:∀ q:(Nat->Value)->Hp->Tr->Nat->Prop,(∀ ts hp tr yc,GL P C n d ro l0.toArray base (k+(l.take j).length) (l.drop j) ts hp yc K->q ts hp tr yc) ->
   mz P C.G ⟨C.Y,pn,false⟩ base ⟨q,λ_ _=>False⟩ ((l0.take k).map (·.dst)).reverse k (l.take j) ts hp [] yc true false):GL P C n d ro l0.toArray base k l ts hp yc K:=by
 intro r a W hi hf hb hG hR;simp only [bn] at jJ;have e:l=l.take j++l.drop j:=(List.take_append_drop j l).symm;have ek:(l0.take k).length=k:=aB;have hh:=h (λts hp _ yc=>GL P C n d ro l0.toArray base (k+(l.take j).length) (l.drop j) ts hp yc K) (λ_ _ _ _ a=>a)
 have hx:ph P C.G ⟨C.Y,pn,false⟩ l0.toArray base (λts hp _ yc=>GL P C n d ro l0.toArray base (k+(l.take j).length) (l.drop j) ts hp yc K) (λ_ _=>False) k (l.take j) ts hp [] yc true false:=by
  refine kH (Q:=⟨_,λ_ _=>False⟩) (l.take j) _ k _ _ _ _ _ _ (λi hi=>?_) (λi hi=>?_) hh
  ·rw [v8 aB];simp only [mW,ek,gG,js];rw [(zO:k - 1 - (k - 1 - i)=i),fI,ag hi];cases l0[i]?<;>rfl
  ·have cS:i<j:=by simp at hi;omega
   rw [fI,ag cS,hl,j5];simp
 rw [e]
 refine qW (l.drop j) (ops:=l0.toArray) (base:=base) (pn:=pn) (Q:=λe a' W'=>∃ s' r',K e s'/\GI P C n d r' s' a' W') (Kn:=λts hp yc=>GL P C n d ro l0.toArray base (k+(l.take j).length) (l.drop j) ts hp yc K) (Kp:=λ_=>False) (hp0:=hp) (jK:=ts) (l0:=l.take j) hG hR hb (l.take j) k ts hp [] yc true false r a W
  (λo ho=>⟨⟨qI jJ.1 ho,uj jJ.2 o ho⟩,ho⟩) (λ_ _=>rfl) hi hf zS (λov eG Bw r' a' W' jR cS Vs _=>jR r' a' W' cS Vs hb hG hR) (λ_ _ _ _ _ _ _ h=>h.elim) hx
theorem ajW {ops:Array Oper} {o:Oper} {post:og} {base k:Nat} {ts:fp} {hp:Hp} {yc:Nat} (hg:o.guard=none) (hd:∀ dd,o.dst=some dd->dd<n)
  (h:SI P o ts hp (base+8*k) λov eG=>GL P C n d ro ops base (k+1) post ov eG yc K):GL P C n d ro ops base k (o::post) ts hp yc K:=by
 intro r a W hi hf hb hG hR;obtain ⟨tx,ty,t,e,i,z,k',j,au,sl,cap,m,m',b,b2,nw,ho,ht,Zf,hz,hx,pf,Vr,RY,Za,hy,oL,H8,Ei,H6,BW,h1,vr,hc,MQ,HU,nU,Ji,OB⟩:=h;refine wpListIn_plain hg λK' MG=>?_;refine CW hi hd ho ht Zf hz hx pf Vr RY Za hy oL H8 Ei H6 BW h1 vr hc MQ HU nU (nk:=base+8*k) ⟨hf _ (aA _),zO⟩ (λhr kv Y4 gS MK=>MG _ _ (Ji hr kv Y4 gS MK (λx qy=>?_) hb hG hR)) (λhr cM qX kv Y4 gS MK=>MG _ _ (OB hr cM qX kv Y4 gS MK (λx qy=>?_) hb hG hR))
 ·rw [ao _ _ (λe=>?_)]
  ·exact hf x zO
  ·subst e;rw [hf x zO] at Vr;cases Vr
 ·exact yH
theorem Zs {ops:Array Oper} {o:Oper} {post:og} {base k:Nat} {ts:fp} {hp eG:Hp} {yc:Nat} {c:Call} {f:Operand} {g:FuncId} {cap:ca} {rs:List Nat} {R:Ij} (hg:o.guard=none) (hd:∀ dd,o.dst=some dd->dd<n)
  (ho:o.op=.call c) (hc:c.callee=.value f) (hf:okT ts f) (Kr:gev ts f=.func (.func g) #[] cap) (Zc:cap.all eh=true) (ha:∀ x∈c.args.toList,okX ts hp x) {args:ca} (n5:c.args.map (gev ts)++cap=args) (hr:FunS P C.G g args eG rs R)
  (h1:∀ q∈rs,eG q=hp q) (h2:∀ q,q<100->eG q=hp q) (tS:∀ v ns,R v ns->∀ q∈ak ns,base+8*k<=q/\q<base+8*k+8)
  (h:∀ v ns,R v ns->GL P C n d ro ops base (k+1) post (cJ ts o.dst v) (bH hp ns) yc K):GL P C n d ro ops base k (o::post) ts hp yc K:=by
 intro r a W hi CP hb hG hR;refine wpListIn_plain hg λK' MG=>?_;refine At hG hi hd ho hc hf Kr Zc ha xp (λv ns KG q hq=>CP q (tS v ns KG q hq).1) (λv ns KG r' a' W' cS=>MG _ _ (h v ns KG r' a' W' cS (λx hx=>?_) hb hG hR));exact Hb
end
section
variable {P:Program} {C:Ctx} {n:Nat} {d:List Deferred} {ro:Option Nat} {s:GS} {K:l6}
theorem QG {l0 l:og} {base k:Nat} {ts:fp} {hp:Hp} {yc:Nat} (j:Nat)
  (h:∀ q:(Nat->Value)->Hp->Tr->Nat->Prop,(∀ ts hp tr yc,GL P C n d ro l0.toArray base (k+(l.take j).length) (l.drop j) ts hp yc K->q ts hp tr yc) ->
   mz P C.G ⟨C.Y,[],false⟩ base ⟨q,λ_ _=>False⟩ ((l0.take k).map (·.dst)).reverse k (l.take j) ts hp [] yc true false) (hl:l=l0.drop k:=by rfl) (hk:k<=l0.length:=by simp) (jJ:(pW n (l.take j)&&Av P (l.take j))=true:=by kernel_rfl):GL P C n d ro l0.toArray base k l ts hp yc K:=aeL j [] hl hk jJ h
end
theorem qM {P Q F:Prop} (f:F) (q:Q) (h:F->Q->P:=by intro f q;refine QG 1 ?_;intro Q hQ;simp [hC,hY,cJ,bH,f];apply hQ;simp only [wT,wM,Nat.reduceAdd];exact q):P:=h f q
theorem By {P Q F:Prop} (f:F) (q:Q) (h:F->Q->P:=by intro f q;refine QG 2 ?_;intro Q hQ;simp [hC,hY,cJ,bH,f];apply hQ;simp only [wT,wM,Nat.reduceAdd];exact q):P:=h f q
theorem On {P Q F:Prop} (f:F) (q:Q) (h:F->Q->P:=by intro f q;refine QG 3 ?_;intro Q hQ;simp [hC,hY,cJ,bH,f];apply hQ;simp only [wT,wM,Nat.reduceAdd];exact q):P:=h f q
theorem Sf {P Q F:Prop} (f:F) (q:Q) (h:F->Q->P:=by intro f q;refine QG 4 ?_;intro Q hQ;simp [hC,hY,cJ,bH,f];apply hQ;simp only [wT,wM,Nat.reduceAdd];exact q):P:=h f q
theorem Y6 {P Q F:Prop} (f:F) (q:Q) (h:F->Q->P:=by intro f q;refine QG 5 ?_;intro Q hQ;simp [hC,hY,cJ,bH,f];apply hQ;simp only [wT,wM,Nat.reduceAdd];exact q):P:=h f q
theorem Rl {P Q F:Prop} (f:F) (q:Q) (h:F->Q->P:=by intro f q;refine QG 6 ?_;intro Q hQ;simp [hC,hY,cJ,bH,f];apply hQ;simp only [wT,wM,Nat.reduceAdd];exact q):P:=h f q
theorem gj {P Q:Prop} (q:Q) (h:Q->P:=by intro q;refine uv ?_;simp only [Array.toList];exact q):P:=h q
theorem HC {p:Prop} (h:p:=by
 simp only [br] at hp1;subst hp1;show W.heap.size<=upd r (base+8*k) W.heap.size (base+8*k);rw [cY];exact aA _):p:=h
section
variable {P:Program}
theorem HZ (w:World) (t ty e:TypeId) (i:TypeInfo) (ht:P.underlying t=some (.slice e)) (hi:P.info? e=some i) (base q:qE) (sl cap c:Nat) (h:sl<=cap) :
  (Builtin.append_ #[t,t] ty #[.slice base sl cap,.slice q 0 c]).run P w=.ok (.slice base sl cap) w:=by
 have hf:(Builtin.firstCells i.size 0 (.slice q 0 c)).run P w=.ok #[] w:=by
  cases q with
  | none=>rfl
  | some a=>exact run_firstCells_some (P:=P) w i.size 0 a 0 c [] zS zS
 cases base with
 | none=>simp [Builtin.append_,run_underlying ht,sizeOf,typeInfo,hi,Builtin.lenOf,h,hf]
 | some a=>simp [Builtin.append_,run_underlying ht,sizeOf,typeInfo,hi,Builtin.lenOf,h,hf,storeCells]
theorem LU {o:Oper} {a:Act} {W:World} {R Rp:Value->World->Prop} {x y:Operand} {t e:TypeId} {i:TypeInfo} {z:Value} {base:qE} {g2 au m m':Nat} {nw:List Value}
  (ho:o.op=.call { callee:=.builtin .append,args:=#[x,y],argTypes:=#[t,t] }) (ht:P.underlying t=some (.slice e)) (hi:P.info? e=some i) (hz:i.zero=some z)
  (hx:a.eval x=.slice base 0 0) (hy:a.eval y=.slice (some ⟨g2,au,none⟩) m m') (hl:nw.length=m*i.size) (hn:∀ j u,nw[j]? = some u->W.cell? ((⟨g2,au,none⟩:Addr).add j)=some u)
  (hm:0<m) (lY:m<=maxLen) (oL:m*i.bytes<=140737488355328)
  (grow:∀ cM,m<=cM->R (.slice (some ⟨W.heap.size,0,none⟩) m cM) (W.drew.alloc (.cells (nw.toArray++Builtin.zeroCells z.cells (cM - m)) e))):tG P o a W R Rp:=by
 unfold tG
 cases base with
 | none =>
  have h:=run_append_nil (P:=P) W t o.type e i z ht hi hz ⟨g2,au,none⟩ m m' nw hl hn hm xk zO;simp only [execOp,ho,resolve,aX,cK,bJ,invoke,builtin,gH,bI,ft,hx,hy,h];exact grow _ (grownCap_ge _ _ _ _)
 | some b =>
  have h:=run_append_grow (P:=P) W t o.type e i z ht hi hz b 0 0 [] zS zS ⟨g2,au,none⟩ m m' nw hl hn zO xk (by simpa using growslice_fits (need:=0+m) (old:=0) zO (by simpa using oL));simp only [cD] at h;simp only [execOp,ho,resolve,aX,cK,bJ,invoke,builtin,gH,bI,ft,hx,hy,h];have:=grow _ (grownCap_ge W m 0 e);exact Rh
end
section
variable {P:Program} {C:Ctx} {n:Nat} {d:List Deferred} {ro:Option Nat} {s:GS} {K:l6}
theorem L8 {ops:Array Oper} {o:Oper} {post:og} {base k:Nat} {ts:fp} {hp:Hp} {yc:Nat} {tx ty:Tmp} {t e:TypeId} {sz o9:Nat} {z:Value} {p:qE} {j au m m':Nat} {b2:Blk} {nw:List Value} (hg:o.guard=none) (hd:∀ dd,o.dst=some dd->dd<n)
  (ho:o.op=.call { callee:=.builtin .append,args:=#[.tmp tx,.tmp ty],argTypes:=#[t,t] }) (ht:P.underlying t=some (.slice e)) (hs:bo P e=some sz) (hz:dm P e=some z) (Jb:uV P e=some o9)
  (hx:ts tx=.slice p 0 0) (hy:ts ty=.slice (some ⟨j,au,none⟩) m m') (oL:hp j=some b2) (H6:∀ q u,nw[q]? = some u->b2.c[au+q]? = some u) (BW:∀ x∈nw,bU x=true) (vr:∀ q,∀ x∈Builtin.zeroCells z.cells q,bU x=true)
  (vw:0<m) (hm:m*sz=nw.length) (HU:m<=maxLen) (nU:m*o9<=140737488355328)
  (grow:∀ cM,m<=cM->GL P C n d ro ops base (k+1) post (cJ ts o.dst (.slice (some ⟨base+8*k,0,none⟩) m cM)) (upd hp (base+8*k) (some ⟨(nw++(Builtin.zeroCells z.cells (cM - m)).toList).toArray,.ty e⟩)) yc K) (H8:b2.T.rd=true:=by first|rfl|assumption):GL P C n d ro ops base k (o::post) ts hp yc K:=by
 intro r a W hi hf hb hG hR;unfold bo at hs;unfold dm at hz;unfold uV at Jb
 cases Zf:P.info? e with
 | none=>rw [Zf] at hs;cases hs
 | some i =>
  rw [Zf] at hs hz Jb;simp only [g5,bf,o4] at hs hz Jb;subst hs;subst Jb;refine wpListIn_plain hg λK' MG=>?_
  have ex:∃ p',a.eval (.tmp tx)=.slice p' 0 0:=by
   have:=(hi.rel tx).resolve_left xo;rw [hx] at this
   cases p with
   | none=>exact ⟨none,this.1⟩
   | some q=>exact ⟨_,this.1⟩
  obtain ⟨p',ex⟩:=ex
  have ey:a.eval (.tmp ty)=.slice (some ⟨r j,au,none⟩) m m':=by
   have:=(hi.rel ty).resolve_left xj;rw [hy] at this;exact this.1
  have hn:∀ q u,nw[q]? = some u->W.cell? ((⟨r j,au,none⟩:Addr).add q)=some u:=λq u hq=>by
   rw [mL];exact N0 (hi.sat j b2 oL).1 (H6 q u hq) (BW u (mD hq)) H8
  have rY:hp (base+8*k)=none:=hf _ (aA _);refine lz lC (LU (R:=λu W'=>wpListIn (Fw P ro) 0 P ops _ post (a.put o.dst u) W') (Rp:=λ_ _=>False) ho ht Zf hz ex ey hm.symm hn vw HU nU (λcM eK=>?_)) (λu W' h=>MG _ _ h) (λpv W' h=>h.elim)
  have hff:∀ x∈(nw++(Builtin.zeroCells z.cells (cM - m)).toList).toArray,bU x=true:=λx hx=>by
   simp only [eZ,bh] at hx;rcases hx with hx|hx
   ·exact BW x hx
   ·exact vr _ x (by simpa using hx)
  have B4:¬dom hp (base+8*k):=by unfold dom;simp [rY]
  have Ku:∀ q,dom hp q->upd r (base+8*k) W.heap.size q=r q:=λq hq=>ao _ _ (λe=>B4 (e▸hq));have hv:(Value.slice (some ⟨W.heap.size,0,none⟩) m cM)=ren (upd r (base+8*k) W.heap.size) (.slice (some ⟨base+8*k,0,none⟩) m cM):=xA
  have ec:nw.toArray++Builtin.zeroCells z.cells (cM - m)=(nw++(Builtin.zeroCells z.cells (cM - m)).toList).toArray:=by
   rw [<-wg,oZ]
  rw [hv,ec];refine grow cM eK (upd r (base+8*k) W.heap.size) _ _ (hi.drew.after (e:=⟨.slice (some ⟨base+8*k,0,none⟩) m cM,[],[],[(base+8*k,⟨_,.ty e⟩)],none,false⟩) hd Ku gb ⟨rfl,rfl,rfl,sF,λq hq _=>?_,λp hp1=>?_,λp hp1=>?_,by simp⟩ ai (by simp [ak,rY];omega)) (λx qy=>?_) hb hG hR
  ·exact rG _ _ _ hq
  ·simp only [bq,br] at hp1;subst hp1;refine ⟨?_,Blk.flat_ids hff⟩;rw [Blk.obj_flat hff];show (W.drew.alloc _).heap[upd r (base+8*k) W.heap.size (base+8*k)]? = _;rw [cY];exact heap_alloc_new W.drew _
  ·exact HC
  ·exact yH
theorem UX {ops:Array Oper} {o:Oper} {post:og} {base k:Nat} {ts:fp} {hp:Hp} {yc:Nat} {tx ty:Tmp} {t e:TypeId} {sz:Nat} {p q:Option (Nat×Nat)} {sl cap c:Nat} (hg:o.guard=none) (hd:∀ dd,o.dst=some dd->dd<n)
  (ho:o.op=.call { callee:=.builtin .append,args:=#[.tmp tx,.tmp ty],argTypes:=#[t,t] }) (ht:P.underlying t=some (.slice e)) (hs:bo P e=some sz)
  (hx:ts tx=.slice (p.map λp=>⟨p.1,p.2,none⟩) sl cap) (hy:ts ty=.slice (q.map λp=>⟨p.1,p.2,none⟩) 0 c) (MQ:sl<=cap)
  (h:GL P C n d ro ops base (k+1) post (cJ ts o.dst (ts tx)) hp yc K):GL P C n d ro ops base k (o::post) ts hp yc K:=by
 intro r a W hi hf hb hG hR;unfold bo at hs
 cases Zf:P.info? e with
 | none=>rw [Zf] at hs;cases hs
 | some i =>
  refine wpListIn_plain hg λK' MG=>?_;have hjx:ts tx≠fP:=xo;have ex0:=(hi.rel tx).resolve_left hjx
  have ex:∃ p',a.eval (.tmp tx)=.slice p' sl cap:=by
   have:=ex0.1;rw [hx] at this
   cases p with
   | none=>exact ⟨none,this⟩
   | some q=>exact ⟨_,this⟩
  have ey:∃ p',a.eval (.tmp ty)=.slice p' 0 c:=by
   have:=(hi.rel ty).resolve_left xj;rw [hy] at this
   cases q with
   | none=>exact ⟨none,this.1⟩
   | some q=>exact ⟨_,this.1⟩
  obtain ⟨p',ex⟩:=ex;obtain ⟨q',ey⟩:=ey;have gU:=HZ (P:=P) W t o.type e i ht Zf p' q' sl cap c MQ;have Sq:a.eval (.tmp tx)=ren r (ts tx):=ex0.1;refine lz lC (R:=λu W'=>u=ren r (ts tx)/\W'=W) (Rp:=λ_ _=>False) ?_ (λu W' h'=>?_) (λpv W' h=>h.elim)
  ·unfold tG;simp only [execOp,ho,resolve,aX,cK,bJ,invoke,builtin,gH,bI,ft,ex,ey,gU];rw [<-ex,Sq];exact ⟨rfl,eX⟩
  ·obtain ⟨rfl,rfl⟩:=h';refine MG _ _ (h r _ _ ?_ (λx qy=>hf x zO) hb hG hR);have:=hi.after (dst:=o.dst) hd (e:=⟨ts tx,[],[],[],none,false⟩) (r':=r) (λ_ _=>rfl) (by rw [wo];exact ex0.2) ⟨rfl,rfl,rfl,aA _,λ_ _ _=>rfl,zS,zS,zS⟩ ai ai;exact Rh
end
end Go.Gy
namespace Go.Gy
open Go Go.RowKit
abbrev rC := @List.getElem?_eq_none
abbrev gE := @List.append_assoc
abbrev ig := @List.getElem?_append_left
abbrev g8 := @List.getElem?_append_right
section
variable {P:Program}
def rdI (b:Blk) (off N:Nat) (f:aJ):Prop:=∀ j,j<N->b.c[off+j]? = some (.int .i64 (f j))
theorem uO (N:Nat) (f:aJ) (T:BTy):rdI ⟨fa N .i64 f,T⟩ 0 N f:=λj hj=>by
 rw [cD];exact mw N .i64 f j hj
theorem rdI.le {b:Blk} {off N M:Nat} {f:aJ} (h:rdI b off N f) (hm:M<=N):rdI b off M f:=λj hj=>h j zO
theorem A8 {T:TypeId} {b:Blk} {off:Nat} {v:Value} (h:eV P T b.c off=some v) (hf:bp v=true) (H8:b.T.rd=true:=by first|rfl|assumption):fB P T b off=some v:=by
 obtain ⟨c,t⟩:=b
 cases t with
 | ty t=>exact h
 | raw t fr=>simp only [fB];simp only at h;rw [h];simp [hf]
 | mp=>cases H8
theorem aaG (m:Nat) (k:IntKind) (f:aJ):bp (.agg (fa m k f))=true:=by
 simp [bp,pX]
theorem tZ {T:TypeId} {m:Nat} (h1:oe P T=some true) (h2:bo P T=some m) (hm:0<m) {b:Blk} {off N j:Nat} {f:aJ} (h:rdI b off N f) (hj:j+m<=N) (H8:b.T.rd=true:=by first|rfl|assumption):fB P T b (off+j)=some (.agg (fa m .i64 λq=>f (j+q))):=by
 have Ag:off+j+m<=b.c.size:=by
  have:=h (j+m - 1) zO;have:=(aO.1 this).1;omega
 have he:b.c.extract (off+j) (off+j+m)=fa m .i64 λq=>f (j+q):=by
  apply gI;intro q;rw [rB];by_cases hq:q<m
  ·rw [ag zO,mw _ _ _ _ hq,o8,h (j+q) zO]
  ·rw [ae zO];simp [fa];omega
 refine A8 ?_ (aaG _ _ _);simp only [eV,h1,h2,ag Ag,he]
theorem ze {T:TypeId} (h1:oe P T=some false) {b:Blk} {off N j:Nat} {f:aJ} (h:rdI b off N f) (hj:j<N) (H8:b.T.rd=true:=by first|rfl|assumption):fB P T b (off+j)=some (.int .i64 (f j)):=by
 refine A8 ?_ (by simp [bp,pX,bU,qK]);simp only [eV,h1,h j hj]
 rfl
theorem awe (k:IntKind) (f:aJ):fa 6 k f=#[.int k (f 0),.int k (f 1),.int k (f 2),.int k (f 3),.int k (f 4),.int k (f 5)]:=by
 exact pP
theorem HO (k:IntKind) (f:aJ):fa 3 k f=#[.int k (f 0),.int k (f 1),.int k (f 2)]:=by
 exact pP
def JQ (f:aJ) (o:Nat) (a b c:Int):Nat->Int:=λj=>if j=o then a else if j=o+1 then b else if j=o+2 then c else f j
theorem PW (N:Nat) (k:IntKind) (f:aJ) (o:Nat) (a b c:Int) (h:o+3<=N):gv (fa N k f) o [.int k a,.int k b,.int k c]=fa N k (JQ f o a b c):=by
 apply gI;intro j;rw [As];by_cases hj:j<N
 ·rw [mw _ _ _ _ hj,mw _ _ _ _ hj];unfold JQ;by_cases h0:j=o
  ·subst h0;simp [hj]
  ·by_cases h1:j=o+1
   ·subst h1;simp [hj]
   ·by_cases h2:j=o+2
    ·subst h2;simp [hj]
    ·rw [ae (by simp;omega),ae h0,ae h1,ae h2]
 ·rw [ae aB];have h1:(fa N k f)[j]? = none:=sc;have h2:(fa N k (JQ f o a b c))[j]? = none:=sc;rw [h1,h2]
def amU (f:aJ) (a m:Nat) (g:aJ):Nat->Int:=λj=>if a<=j/\j<a+m then g (j - a) else f j
def HL (f:aJ) (a m:Nat) (g:aJ):Nat->Int:=λj=>if j<a then f j else if j<a+m then g (j - a) else 0
theorem Ic {l:List Value} {N:Nat} {k:IntKind} {g:aJ} (hl:l.length=N) (h:∀ j,j<N->l[j]? = some (.int k (g j))):l.toArray=fa N k g:=by
 apply gI;intro j;by_cases hj:j<N
 ·rw [mw _ _ _ _ hj,js,h j hj]
 ·have h1:(fa N k g)[j]? = none:=by simp [fa];omega
  rw [h1,js,rC zO]
theorem gY {N:Nat} {k:IntKind} {f:aJ} {j:Nat} (h:j<N):(fa N k f).toList[j]? = some (.int k (f j)):=by
 rw [iP];exact mw _ _ _ _ h
theorem mj (N:Nat) (k:IntKind) (f:aJ):(fa N k f).toList.length=N:=zS
theorem ZN {N a m:Nat} {k:IntKind} {f g:aJ} (h:a+m<=N):((fa N k f).toList.take a++(fa m k g).toList++(fa N k f).toList.drop (a+(fa m k g).toList.length)).toArray=fa N k (amU f a m g):=by
 refine Ic aB λj hj=>?_;rw [mj];have hta:((fa N k f).toList.take a).length=a:=aB;unfold amU;by_cases h1:j<a
 ·rw [gE,ig zO,fI,ag h1,gY zO,ae zO]
 ·rw [gE,g8 zO,hta];by_cases h2:j<a+m
  ·rw [ig (by simp;omega),gY zO,ag zO]
  ·rw [g8 (by simp;omega),mj,j5,ae zO,(zO:a+m+(j - a - m)=j),gY hj]
theorem Bx {z:ca} {k:IntKind} (hz:∀ x∈z,x=.int k 0) (q:Nat):(Builtin.zeroCells z q).toList=(fa (q*z.size) k λ_=>0).toList:=by
 have e:(Builtin.zeroCells z q).toList.toArray=fa (q*z.size) k λ_=>0:=Ic (by simp [Io]) λj hj=>by
  have QZ:j<(Builtin.zeroCells z q).size:=by rw [Io];exact hj
  rw [iP,jw QZ];exact congrArg some (hz _ (yW (jV QZ)))
 rw [<-e]
theorem ZM {N a m q:Nat} {k:IntKind} {f g:aJ} (h:a<=N):((fa N k f).toList.take a++(fa m k g).toList++(fa q k λ_=>0).toList).toArray=fa (a+m+q) k (HL f a m g):=by
 refine Ic aB λj hj=>?_;have hta:((fa N k f).toList.take a).length=a:=aB;unfold HL;by_cases h1:j<a
 ·rw [gE,ig zO,fI,ag h1,gY zO,ag h1]
 ·rw [gE,g8 zO,hta,ae h1];by_cases h2:j<a+m
  ·rw [ig (by simp;omega),gY zO,ag h2]
  ·rw [g8 (by simp;omega),mj,gY zO,ae h2]
theorem Mn {m q:Nat} {k:IntKind} {g:aJ}:((fa m k g).toList++(fa q k λ_=>0).toList).toArray=fa (m+q) k (HL g m 0 g):=by
 refine Ic zS λj hj=>?_;unfold HL;by_cases h1:j<m
 ·rw [ig (by simp;omega),gY h1,ag h1]
 ·rw [g8 (by simp;omega),mj,gY zO,ae h1,ae zO]
theorem nX {N:Nat} {k:IntKind} {f:aJ}:∀ x∈(fa N k f).toList,bU x=true:=λx hx=>by
 obtain ⟨m,rfl⟩:=uF (Array.mem_toList_iff.1 hx)
 rfl
theorem Od {N:Nat} {k:IntKind} {f:aJ}:∀ x∈(fa N k f).toList,x.oneCell'=true:=λx hx=>by
 obtain ⟨m,rfl⟩:=uF (Array.mem_toList_iff.1 hx)
 rfl
theorem amZ {b:Blk} {off N:Nat} {f:aJ} (h:rdI b off N f):∀ q u,(fa N .i64 f).toList[q]? = some u->b.c[off+q]? = some u:=λq u hq=>by
 by_cases hN:q<N
 ·rw [gY hN] at hq;rw [h q hN];exact hq
 ·rw [rC (by simp;omega)] at hq;cases hq
theorem jH {N:Nat} {f:aJ} {k:IntKind} {T:TypeId} {ρ:dR}:(Blk.mk (fa N k f) (.ty T)).rn ρ=⟨fa N k f,.ty T⟩:=Blk.rn_flat λx hx=>by
 obtain ⟨m,rfl⟩:=uF hx;rfl
end
end Go.Gy
namespace Go.Gy
open Go Go.RowKit
section
variable {P:Program} {G:Hp}
variable {C:Ctx} {n:Nat} {d:List Deferred} {s:GS} {K:l6}
theorem WeakR.subd {ρ:dR} {s':GS} (hw:WeakR C ρ s s') (hg:∀ k,k<100->s.hp k=C.G k) (k:Nat) (hk:dom s'.hp k):dom s.hp (ρ k):=by
 unfold dom at hk
 cases hb:s'.hp k with
 | none=>exact absurd hb hk
 | some b =>
  by_cases h1:100<=k
  ·unfold dom;rw [(hw.hp k b hb h1).1];simp
  ·rw [hw.id k zO];unfold dom;rw [hg k zO,<-hw.glob k zO,hb];simp
theorem Own0.rename {So:iH} {ms:List Nat} {yc B2 B Bw:Nat} {a:Act} {r ρ:dR} {ts:fp} {hp hq:Hp} {V:World} (h:Own0 C d So ms yc a r ts hp V) (hw:WeakR C ρ ⟨ts,hp,B2,Bw⟩ ⟨ts,hq,B,Bw⟩):Own0 C d So ms yc a (λk=>r (ρ k)) ts hq V:=by
 have subd:=hw.subd (λk hk=>h.glob k hk)
 have sub:∀ k b,hq k=some b->hp (ρ k)=some (b.rn ρ):=λk b hb=>by
  by_cases hk:100<=k
  ·exact (hw.hp k b hb hk).1
  ·have hg:C.G k=some b:=(hw.glob k zO).symm.trans hb;rw [hw.id k zO,hw.rest k b zO hg,h.glob k zO];exact hg
 refine ⟨λt=>?_,λk b hb=>?_,λk l hk hl e=>hw.inj k l hk hl (h.inj _ _ (subd k hk) (subd l hl) e),h.X,λi hd h1=>?_,h.mks,λi hi=>?_,hw.glob,λk hk hd=>?_⟩
 ·rcases hw.ts t with e|⟨e,cW,hi⟩
  ·exact .inl e
  ·have e':=(h.ri t).resolve_left cW;refine .inr ⟨?_,hi⟩;have e2:ts t=ren ρ (ts t):=e;rw [e'.1]
   conv=>lhs;rw [e2]
   rw [lx]
 ·have hs:=(h.sat _ _ (sub k b hb)).1;rw [Blk.rn_obj] at hs;exact ⟨hs,hw.ids k b hb⟩
 ·refine h.sep _ (subd i hd) ?_;have vc:dom hq i:=hd;unfold dom at vc
  cases hb:hq i with
  | none=>exact absurd hb vc
  | some b=>exact (hw.hp i b hb h1).2
 ·have hk:=h.keep i hi;by_cases h1:100<=i
  ·exact Gf
  ·refine ⟨?_,by rw [hw.id i zO];exact hk.2⟩;show dom hq i;unfold dom;have e1:hq i=C.G i:=hw.glob i zO;rw [e1,<-h.glob i zO];exact hk.1
 ·have vc:=subd k hd;rw [hw.id k hk] at vc |-;exact h.low k hk vc
end
theorem Db {p:Prop} (h:p:=by unfold dom;show ow k≠none;rw [hk];simp):p:=h
theorem Eh {p:Prop} (h:p:=by
 have H4:ow i=none\/ow i=s.hp i:=by
  exact GQ
 rcases H4 with e|e
 ·exact absurd e hd
 ·have e:ow i=s.hp i:=e;unfold dom at *;rw [<-e];exact hd):p:=h
theorem Fy {p:Prop} (h:p:=by
 rw [RN l ((Sn l).2 ⟨CN l kl,?_⟩)]
 ·exact hl
 ·rintro ⟨i,hd,e⟩;unfold dom at hd
  cases hb:hq i with
  | none=>exact hd hb
  | some b=>have:=(c8.sat i b hb).1;rw [e,hl] at this;exact (Blk.obj_loop this).elim):p:=h
section
variable {P:Program} {G:Hp}
structure IterK (P:Program) (G:Hp) (f:FuncId) (bF:ca) (hp:Hp) (rs:List Nat) (xs:List (Array Value)):Prop where
 enter:∀ a w,(callFunc f a).run P w=.ok (.enter f a) w
 cids:∀ x∈bF,eh x=true/\aL (dom (rst hp rs)) x
 closed:∀ k b,rst hp rs k=some b->b.ids (dom (rst hp rs))
 run:∀ (E:Ext) (l stop:Nat) r S W,GOK G W->Sat r (dom (rst hp rs)) (rst hp rs) W->Inj r (dom (rst hp rs))->(∀ k,k<100->dom (rst hp rs) k->r k=k)->qG P G E ⟨l,xs,stop,none,none⟩->E.X 0 S W->(∀ k,S k->k<W.heap.size) ->
  (∀ i,dom (rst hp rs) i->100<=i->¬S (r i)) ->
  l7 P f (#[Value.func (.yield l) #[] #[]]++bF.map (ren r)) W λe W'=>(∃ v,e=.returned v)/\(∃ S',E.X (min (stop+1) xs.length) S' W')/\∀ k,dom (rst hp rs) k->W'.heap[r k]? = W.heap[r k]?
theorem IterK.g {f:FuncId} {bF:ca} {hp:Hp} {rs:List Nat} {xs:List (Array Value)} (h:IterK P G f bF hp rs xs):q9 P G f bF hp rs xs :=
 ⟨h.enter,h.cids,h.closed,λE l stop r S W h1 h2 h3 h4 _ h5 h6 h7 h8=>(h.run E l stop r S W h1 h2 h3 h4 h5 h6 h7 h8).mono λ_ _ hh=>⟨hh.1,hh.2.1⟩⟩
theorem abY {f:FuncId} {fn:Func} {c:Code} {bF:ca} {hp:Hp} {rs:List Nat} {xs:List (Array Value)} {B:Nat} {v:Value} (eg:c7 G) (hG:∀ k,k<100->hp k=G k) (hf:P.funcs[f]? = some fn) (hb:fn.body=some c) (gC:∀ a w,(callFunc f a).run P w=.ok (.enter f a) w)
  (ha:∀ x∈bF,eh x=true/\aL (dom (rst hp rs)) x) (oM:∀ k b,rst hp rs k=some b->b.ids (dom (rst hp rs))) (hn:bF.size+1<=fn.ntmps) (hB:100<=B) (eU:∀ x,B<=x->rst hp rs x=none)
  (h:∀ (C:Ctx) (l stop:Nat),C.G=G->C.hp0=rst hp rs->C.Y=some ⟨l,xs,stop,none,none⟩->GW P C fn.ntmps [] none c ⟨λt=>(#[Value.func (.yield l) #[] #[]]++bF).getD t undef,rst hp rs,B,0⟩
   (λe s=>(e=.normal\/e=.ret)/\tB P fn.results.toList s.ts s.hp=some v/\s.yc=min (stop+1) xs.length/\∀ k,dom (rst hp rs) k->s.hp k=rst hp rs k)):IterK P G f bF hp rs xs:=by
 refine ⟨gC,ha,oM,λE l stop r S W kE jU jk bC hR hX hS nS=>callsIn_of_wp_marks hf hb ⟨fn,hf⟩ ?_⟩;let C:Ctx:=⟨E,rst hp rs,r,G,some ⟨l,xs,stop,none,none⟩⟩
 have hi:GI P C fn.ntmps [] r ⟨λt=>(#[Value.func (.yield l) #[] #[]]++bF).getD t undef,rst hp rs,B,0⟩
   { tmps:=(#[Value.func (.yield l) #[] #[]]++bF.map (ren r))++Array.replicate (fn.ntmps - (#[Value.func (.yield l) #[] #[]]++bF.map (ren r)).size) undef,defers:=[] } W:=by
  exact FV
 refine wpIn_mono (h C l stop rfl rfl rfl r _ W hi) ?_;rintro e a' W' ⟨s',r',Ae,cS⟩;obtain ⟨S',ms,yG,xR,ND,⟨vp,B4⟩,rX⟩:=cS.ri.ext;obtain ⟨he,hr,hy,fN⟩:=Ae
 have dk:∀ gS:World,gS.heap.size=W'.heap.size->gS.os=W'.os->gS.tape=W'.tape->gS.output=W'.output->(∀ k,k∉ms->gS.heap[k]? = W'.heap[k]?) ->
   LeavesIn (Fw P none) 0 P fn a'.tmps (λe W'=>(∃ v,e=.returned v)/\(∃ S',E.X (min (stop+1) xs.length) S' W')/\∀ k,dom (rst hp rs) k->W'.heap[r k]? = W.heap[r k]?) [] .returning gS:=λgS e1 e2 e3 e4 e5=>by
  have tU:Sat r' (dom s'.hp) s'.hp gS:=λk b hk=>⟨by
   rw [e5 _ (λhm=>cS.ri.ne_mark iV (rX _ hm).1 rfl)];exact (cS.ri.sat k b hk).1,(cS.ri.sat k b hk).2⟩
  refine ⟨_,lW (fn:=fn) cS.ri.rel tU hr,⟨_,rfl⟩,⟨S',?_⟩,λk hk=>?_⟩;rotate_left
  ·have DR:dom s'.hp k/\r' k=r k:=cS.ri.keep k hk;unfold dom at hk
   cases hb:rst hp rs k with
   | none=>exact absurd hb hk
   | some b =>
    have e6:s'.hp k=some b:=(fN k iv).trans hb;have e7:=(tU k b e6).1;rw [DR.2,Blk.obj_congr (λq hq=>(cS.ri.keep q hq).2) (oM k b hb)] at e7;rw [e7,(jU k b hb).1]
  exact xN
 exact nO
end
section
variable {P:Program} {G:Hp}
variable {C:Ctx} {n:Nat} {d:List Deferred} {s:GS} {K:l6}
def qF (C:Ctx) (l:Nat):Prop:=∀ c S W,C.E.X c S W->S l/\∃ r0,W.heap[l]? = some (.loop r0)
theorem Yj {t:Tmp} {ps:Array Tmp} {assign body:Code} {f:FuncId} {bF:ca} {rs:List Nat} {xs:List (Array Value)} (hg:s.ts t=.func (.func f) #[] bF) (pT:IterK P C.G f bF s.hp rs xs)
  (zE:∀ x∈xs,x.size=ps.size/\∀ v∈x,bp v=true) (H7:∀ p∈ps,p<n) (gw:fp) (I:Nat->Hp->Prop) {ow:Hp} (B:Nat) (N:Nat) (hN:N<=xs.length)
  (hw:Weak C s ⟨gw,ow,B,s.yc⟩) (h0:I 0 ow) (nS:∀ k∈rs,ow k=none/\dom s.hp k)
  (rounds:∀ i x hq,i<N->xs[i]? = some x->I i hq->∀ (C1:Ctx) (l:Nat),C1.G=C.G->C1.hp0=hq->C1.Y=none->GW P C1 n [] (some l) assign ⟨bG ps.toList x.toList gw,hq,B,0⟩
   (dY (λs1=>∀ C2:Ctx,C2.G=C.G->C2.hp0=hq->C2.Y=none->qF C2 l->GW P C2 n [] (some l) body s1 (dY (λs2=>∃ ρ wE,WeakR C ρ ⟨gw,s2.hp,s2.B,s.yc⟩ ⟨gw,wE,B,s.yc⟩/\I (i+1) wE) (λ_ _=>False))) (λ_ _=>False)))
  (fin:(N=xs.length/\∀ hq,I N hq->K .normal ⟨gw,hq,B,s.yc⟩)\/∃ x,xs[N]? = some x/\∀ hq,I N hq->∀ (C1:Ctx) (l:Nat),C1.G=C.G->C1.hp0=hq->C1.Y=none->GW P C1 n [] (some l) assign ⟨bG ps.toList x.toList gw,hq,B,0⟩
    (dY (λs1=>∀ C2:Ctx,C2.G=C.G->C2.hp0=hq->C2.Y=none->qF C2 l->GW P C2 n [] (some l) body s1 (λe s2=>(fq e).isSome=true/\(∀ t,aL (dom s2.hp) (gw t))/\K e ⟨gw,s2.hp,s2.B,s.yc⟩)) (λ_ _=>False)))
  (QO:C.Y≠some .still) {r:dR} {a:Act} {W:World} (ma:GI P C n d r s a W) :
  (Code.rangeFunc (.tmp t) ps assign body).wpIn (Fw P none) 0 P (λe a' W'=>∃ s' r',(K e s'/\GI P C n d r' s' a' W')/\a'.tmps=a.tmps/\(∀ k,dom (rst s.hp rs) k->W'.heap[r k]? = W.heap[r k]?)/\(∀ i,dom s'.hp i->∀ k∈rs,100<=k->r' i≠r k)) a W:=by
 obtain ⟨pn,oz⟩:∃ pn:Option Value,pn=none:=⟨_,rfl⟩
 have hi:=ma.weak hw;obtain ⟨So,ms,Y8,MH,Jj,⟨vp,B4⟩,rX⟩:=ma.ri.ext
 have Le:a.eval (.tmp t)=.func (.func f) #[] (bF.map (aF r)):=by
  exact ya
 have eK:bF.map (aF r)=bF.map (ren r):=bY λx hx=>(kA (pT.cids x hx).1).symm;rw [eK] at Le;refine wpIn_rangeFunc ?_;rintro fn ⟨bR,Ox⟩;obtain ⟨rec,my⟩:∃ rec:LoopState->Option Code->Loop,rec=λst pe=>{ state:=st,pending:=pe,fn,tmps:=a.tmps,params:=ps,assign,body,defers:=W.heap.size }:=⟨_,rfl⟩
 obtain ⟨W1,yn⟩:∃ W1,(W.alloc (.deferred (some []))).alloc (.loop (rec .ready none))=W1:=⟨_,rfl⟩
 have QK:W1.heap[W.heap.size+1]? = some (.loop (rec .ready none)):=by
  exact Ev
 have Qr:W1.heap[W.heap.size]? = some (.deferred (some [])):=by
  rw [<-yn];exact (rG _ _ _ zS).trans (mU W _)
 have arv:W1.heap.size=W.heap.size+2:=by rw [<-yn];simp
 have lY:Below W.heap.size W W1:=by
  rw [<-yn];exact (((mG _ W).alloc (aA _) _).alloc zS _)
 let l:=W.heap.size+1;let D0:=W.heap.size;let zv:Nat->Prop:=λj=>∃ i,i∈rs/\100<=i/\r i=j
 -- Qh is said U6 two rounds
 let Lv:LoopState->Option Code->World->Prop:=λst pe V=>V.heap[l]? = some (.loop (rec st pe))/\V.heap[D0]? = some (.deferred (some []))
 let XX:Nat->(Nat->Prop)->World->Prop:=λc S V=>(∀ k,So k->S k)/\(∀ D∈ms,S D)/\S l/\S D0/\(∀ k,S k->¬zv k) /\
  ((c<=N/\∃ hq,I c hq/\(∀ x,B<=x->hq x=none)/\∃ rc,(∀ i,dom hq i->S (rc i))/\uy S V (λV'=>Own0 C d So ms s.yc a rc gw hq V'/\Lv .ready none V')) \/
  (c=N+1/\∃ e ou BE rc,((pn=none/\(fq e).isSome=true)\/∃ pv,pn=some pv/\e=.panic [{ v:=pv,recovered:=false }])/\K e ⟨gw,ou,BE,s.yc⟩/\(∀ x,BE<=x->ou x=none)/\100<=BE/\(∀ i,dom ou i->S (rc i))/\uy S V (λV'=>Own0 C d So ms s.yc a rc gw ou V'/\V'.heap[D0]? = some (.deferred (some []))/\∀ j,fq e=some j->Lv .done (some j) V')))
 let E:Ext:=⟨XX,λc S V V' h hs os tape output size=>⟨h.1,h.2.1,h.2.2.1,h.2.2.2.1,h.2.2.2.2.1,h.2.2.2.2.2.imp (λ⟨hc,hq,hI,hf,rc,h1,h2⟩=>⟨hc,hq,hI,hf,rc,h1,h2.trans (λ_ h=>h) hs os tape output size⟩)
  (λ⟨hc,e,ou,BE,rc,h1,h2,h3,h4,h5,h6⟩=>⟨hc,e,ou,BE,rc,h1,h2,h3,h4,h5,h6.trans (λ_ h=>h) hs os tape output size⟩)⟩⟩
 have sub:∀ i,dom (ow) i->dom s.hp i:=λi hd=>by
  exact Eh
 have Ao:Own0 C d So ms s.yc a r gw (ow) W1:=⟨hi.ri.rel,λk b hk=>⟨(lY.block _ (hi.ri.lt (k:=k) Db)).trans (hi.ri.sat k b hk).1,(hi.ri.sat k b hk).2⟩,hi.ri.inj,
  C.E.ok _ _ _ _ Y8 (λk hk=>lY.block k (MH k hk)) lY.os lY.tape lY.output lY.size,λi hd h1=>Jj i (sub i hd) h1,
  λD hD=>(lY.block D (aO.1 (rX D hD).1).1).trans (rX D hD).1,hi.ri.keep,hi.ri.glob,hi.ri.low⟩
 have OU:∀ i,dom s.hp i->zv (r i)->i∈rs:=λi hd ⟨j,hj,_,e⟩=>by
  exact yO
 let S1:Nat->Prop:=λk=>k<W1.heap.size/\¬zv k;have tH:∀ k,zv k->k<W.heap.size:=λk ⟨i,ot,_,e⟩=>e▸ma.ri.lt (nS i ot).2;have PR:∀ k,So k->S1 k:=λk hk=>⟨pt,λ⟨i,ot,h1,e⟩=>Jj i (nS i ot).2 h1 (e▸hk)⟩
 have PT:∀ D∈ms,S1 D:=λD hD=>⟨xi,λ⟨i,ot,_,e⟩=>ma.ri.ne_mark (nS i ot).2 (rX D hD).1 e⟩
 have Rc:S1 l:=⟨zO,λhc=>pr⟩
 have Rb:S1 D0:=⟨zO,λhc=>pr⟩
 have PS:∀ i,dom (ow) i->S1 (r i):=λi hd=>⟨w9,λhc=>hd (nS i (OU i (sub i hd) hc)).1⟩
 have X0:XX 0 S1 W1:=⟨PR,PT,Rc,Rb,λk hk=>hk.2,.inl ⟨fX _,ow,h0,hw.free,r,PS,λV k1 k2 k3 k4 k5=>⟨Ao.supp PR PS PT V k1 k2 k3 k4 k5,(k1 l Rc).trans QK,(k1 D0 Rb).trans Qr⟩⟩⟩
 have Oo:∀ {rc:dR} {vx:Hp} {V:World},Sat rc (dom vx) vx V->(∀ k,k<100->vx k=C.G k)->(∀ k,k<100->dom vx k->rc k=k)->GOK C.G V:=λ{rc vx V} h1 h2 h3 k b hk=>by
  exact xV
 -- one round
 have wG:qG P C.G E ⟨l,xs,N,pn,none⟩:=by
  refine qG.of_none rfl ?_;intro c x S V kE hx hc hXc CN;obtain ⟨MZ,NI,kl,kD,TL,wC⟩:=hXc;have hcN:c<=N:=hc
  obtain ⟨qX,hq,hI,Ts,rc,qj,ml⟩:c<=N/\∃ hq,I c hq/\(∀ x,B<=x->hq x=none)/\∃ rc,(∀ i,dom hq i->S (rc i))/\uy S V (λV'=>Own0 C d So ms s.yc a rc gw hq V'/\Lv .ready none V'):=by
   exact yB
  obtain ⟨c8,hl,hD⟩:=ml.here;have Q7:=zE x (mD hx);have hy:=run_yield (P:=P) (args:=x) hl (by rw [my];exact Q7.1);rw [my] at hy;refine ⟨fn,_,assign,body,hy,oF ⟨bR,Ox⟩ Ox ?_⟩;have abI:=JY (r:=rc) (D:=dom hq) (ps.toList.zip x.toList) gw a.tmps (λp hp1=>⟨xG,Q7.2 _ xn⟩) c8.ri
  have Q5:(ps.zip x).foldl (λt (p:Tmp×Value)=>t.setIfInBounds p.1 p.2) a.tmps=(ps.toList.zip x.toList).foldl (λt (p:Tmp×Value)=>t.setIfInBounds p.1 p.2) a.tmps:=by
   rw [<-re,vQ]
  have abL:((ps.zip x).foldl (λt (p:Tmp×Value)=>t.setIfInBounds p.1 p.2) a.tmps).size=n:=by
   rw [Q5,qL,ma.ri.size]
  let im:Nat->Prop:=imO rc hq
  let RR:Ending->World->Prop:=λe W'=>(match (YG.mk l xs N pn none).pan c with|none=>e=.returned (.bool (c != N))|some pv=>e=.panicked [{ v:=pv,recovered:=false }])/\GOK C.G W'/\V.heap.size<=W'.heap.size/\(∀ k,k<V.heap.size->¬S k->W'.heap[k]? = V.heap[k]?) /\
      ∃ S',XX (c+1) S' W'/\(∀ k,S' k->k<W'.heap.size)/\∀ k,S' k->k<V.heap.size->S k
  -- Ws assignment to Ws acd LV
  let C1:Ctx:=⟨jM V im,hq,rc,C.G,none⟩
  have ltV:∀ i,dom hq i->rc i<V.heap.size:=λi hd=>CN _ (qj i hd)
  have Sd:GI P C1 n [] rc ⟨bG ps.toList x.toList gw,hq,B,0⟩ { tmps:=(ps.zip x).foldl (λt (p:Tmp×Value)=>t.setIfInBounds p.1 p.2) a.tmps,defers:=[] } V:=by
   exact yy
  have To:¬So l:=λh=>by have:=MH _ h;omega
  -- a Nn frame,from its assignment on
  have both:∀ (Kb:l6),GW P C1 n [] (some l) assign ⟨bG ps.toList x.toList gw,hq,B,0⟩ (dY (λs1=>∀ C2:Ctx,C2.G=C.G->C2.hp0=hq->C2.Y=none->qF C2 l->GW P C2 n [] (some l) body s1 Kb) (λ_ _=>False)) ->
    (∀ e s2 (r2:dR) (V1 V2:World) (a1 a2:Act) (r1:dR) (ts1:fp) (hp1:Hp) (y1:Nat) (D1:iH),(∀ k,k<V.heap.size->D1 k->imO r1 hp1 k)->¬D1 l->Kb e s2->RI ⟨jM V im,hq,rc,C.G,none⟩ n [] r1 ts1 hp1 y1 a1 V1 ->
     GI P ⟨jM (V1.putObj l (.loop (rec .busy none))) D1,hq,rc,C.G,none⟩ n [] r2 s2 a2 V2->mA (Fs P) 0 P bR l RR e a2 V2) ->
    assign.wpIn ((Fs P).inRound l) 0 P (Exit.then (λa₁ w₁=>∃ w₂,(Instr.beginRound l).run P w₁=.ok () w₂/\body.wpIn ((Fs P).inRound l) 0 P (mA (Fs P) 0 P bR l RR) a₁ w₂) (λ_ _ _=>False))
     { tmps:=(ps.zip x).foldl (λt (p:Tmp×Value)=>t.setIfInBounds p.1 p.2) a.tmps,defers:=[] } V:=λKb hgw dk=>by
   refine wpIn_mono (hgw rc _ V Sd) ?_;rintro e a1 V1 ⟨s1,r1,pf,gi⟩
   cases e with
   | normal =>
    obtain ⟨T1,m1,⟨Sn,os1,tp1,ou1,sz1,RN⟩,ak1,Yz,df1,GG⟩:=gi.ri.ext
    have BC:V1.heap[l]? = some (.loop (rec .ready none)):=by
     exact Fy
    refine ⟨_,run_beginRound BC nD,?_⟩;have Ez:{ rec .ready none with state:=.busy }=rec .busy none:=nD;rw [Ez];have KJ:l<V1.heap.size:=(aO.1 BC).1;let D1:Nat->Prop:=λk=>imO r1 s1.hp k\/k∈m1;let C2:Ctx:=⟨jM (V1.putObj l (.loop (rec .busy none))) D1,hq,rc,C.G,none⟩
    have vu:GI P C2 n [] r1 s1 a1 (V1.putObj l (.loop (rec .busy none))):=by
     exact GK
    have RW:qF C2 l:=λc S V0 h=>by
     have hS:S l:=(h.1 l).2 ⟨by rw [gO];exact KJ,λhD=>hD.elim (λh=>gi.ri.not_loop BC h) λh=>by have:=(GG l h).1;rw [BC] at this;cases this⟩;exact ⟨hS,_,(h.2.2.2.2.2 l hS).trans (kV KJ)⟩
    refine wpIn_mono (pf C2 rfl rfl rfl RW r1 a1 _ vu) ?_;rintro e2 a2 V2 ⟨s2,r2,qx,RT⟩;refine dk e2 s2 r2 V1 V2 a1 a2 r1 s1.ts s1.hp s1.yc D1 (λk hk hD=>?_) (λhD=>?_) qx gi.ri RT
    ·exact EG
    ·rcases hD with h|h
     ·exact gi.ri.not_loop BC h
     ·have:=(GG l h).1;rw [BC] at this;cases this
   | _=>exact pf.elim
  -- Qh a round leaves,put P6
  have post:∀ (st:LoopState) (pe:Option Code) (r2:dR) (V1 V2:World) (a1 a2:Act) (r1:dR) (ts1 ts2:fp) (hp1 hp2:Hp) (y1 y2:Nat) (D1:iH),(∀ k,k<V.heap.size->D1 k->imO r1 hp1 k)->¬D1 l->RI ⟨jM V im,hq,rc,C.G,none⟩ n [] r1 ts1 hp1 y1 a1 V1 ->
    RI ⟨jM (V1.putObj l (.loop (rec .busy none))) D1,hq,rc,C.G,none⟩ n [] r2 ts2 hp2 y2 a2 V2 ->
    V2.heap[l]? = some (.loop (rec .busy none))/\GOK C.G (V2.putObj l (.loop (rec st pe)))/\V.heap.size<=(V2.putObj l (.loop (rec st pe))).heap.size/\(∀ k,k<V.heap.size->¬S k->(V2.putObj l (.loop (rec st pe))).heap[k]? = V.heap[k]?) /\
    ∃ S':Nat->Prop,(∀ k,So k->S' k)/\(∀ D∈ms,S' D)/\S' l/\S' D0/\(∀ i,dom hp2 i->S' (r2 i))/\uy S' (V2.putObj l (.loop (rec st pe))) (λV'=>Own0 C d So ms s.yc a r2 gw hp2 V'/\Lv st pe V') /\
     (∀ k,S' k->k<(V2.putObj l (.loop (rec st pe))).heap.size)/\(∀ k,S' k->k<V.heap.size->S k):=λst pe r2 V1 V2 a1 a2 r1 ts1 ts2 hp1 hp2 y1 y2 D1 I8 tz BD Nm=>by
   obtain ⟨_,q1,q2,q3,q4,q5,q6⟩:=Ch (L2:=rec st pe) ma.flat c8 To CN MZ NI qj hl BD I8 tz Nm;have sz:(V2.putObj l (.loop (rec st pe))).heap.size=V2.heap.size:=gO _ _ _;have abC:∀ k,¬S k->¬imO rc hq k:=λk hk ⟨i,hd,e⟩=>hk (e▸qj i hd);refine ⟨q1,q6,by rw [sz];exact q4,λk hk MO=>q5 k hk (abC k MO) (λe=>MO (e▸kl)),λk=>S k\/(V.heap.size<=k/\k<V2.heap.size),λk hk=>.inl (MZ k hk),λD hD=>.inl (NI D hD),.inl kl,.inl kD,λi hd=>?_,?_,λk hk=>?_,λk hk dp=>?_⟩
   ·exact Ge
   ·have RV:(V2.putObj l (.loop (rec st pe))).heap[D0]? = some (.deferred (some [])):=by
     rw [q5 D0 (CN D0 kD) (λ⟨i,vc,e⟩=>by
      unfold dom at vc
      cases hb:hq i with
      | none=>exact vc hb
      | some b=>have:=(c8.sat i b hb).1;rw [e,hD] at this;exact (Blk.obj_def this).elim) zO]
     exact hD
    exact G5
   ·exact yf
   ·exact hk.resolve_right zO
  have ZX:∀ S':Nat->Prop,(∀ k,S' k->k<V.heap.size->S k)->∀ k,S' k->¬zv k:=λS' wv k hk hc=>by
   by_cases dp:k<V.heap.size
   ·exact TL k (wv k hk dp) hc
   ·have h5:=tH k hc;have h6:=CN D0 kD;exact dp zO
  by_cases QT:c<N
  ·refine both _ (rounds c x hq QT hx hI C1 l rfl rfl rfl) ?_;intro e s2 r2 V1 V2 a1 a2 r1 ts1 hp1 y1 D1 I8 tz hk BD vu
   cases e with
   | normal =>
    obtain ⟨ρ,wE,CS,Xp⟩:=hk;obtain ⟨p1,p2,p3,p4,S',p5,p6,p7,p8,p9,lR,lZ,m7⟩:=post .ready none r2 V1 V2 a1 a2 r1 ts1 _ hp1 _ y1 _ D1 I8 tz BD vu.ri;have dk:=run_endRound (P:=P) none p1;rw [my] at dk p2 p3 p4 lR lZ;refine ⟨_,_,dk,?_,p2,p3,p4,S',⟨p5,p6,p7,p8,ZX S' m7,.inl ⟨QT,wE,Xp,CS.free,λk=>r2 (ρ k),λi hd=>p9 (ρ i) (CS.subd (λk hk=>vu.ri.glob k hk) i hd),?_⟩⟩,lZ,m7⟩
    ·exact EW
    ·intro V' k1 k2 k3 k4 k5;have:=lR V' k1 k2 k3 k4 k5;exact ⟨this.1.rename CS,by simpa [my] using this.2⟩
   | _=>exact hk.elim
  ·obtain rfl:c=N:=zO
   have Ll:(YG.mk l xs c pn none).pan c=pn:=by
    exact xX
   cases pn with
   | none =>
    rcases fin with ⟨e,_⟩|⟨x',qy,Ad⟩
    ·obtain ⟨h9,_⟩:=mK.1 hx;have h9:c<xs.length:=h9;omega
    ·have hx:xs[c]? = some x:=hx;rw [hx] at qy;cases qy;refine both _ (Ad hq hI C1 l rfl rfl rfl) ?_;intro e s2 r2 V1 V2 a1 a2 r1 ts1 hp1 y1 D1 I8 tz hk BD vu;obtain ⟨pf,qx,Ks⟩:=hk
     cases ho:fq e with
     | none=>rw [ho] at pf;cases pf
     | some j =>
      obtain ⟨p1,p2,p3,p4,S',p5,p6,p7,p8,p9,lR,lZ,m7⟩:=post .done (some j) r2 V1 V2 a1 a2 r1 ts1 _ hp1 _ y1 _ D1 I8 tz BD vu.ri;have dk:=run_endRound (P:=P) (some j) p1;rw [my] at dk p2 p3 p4 lR lZ
      have hR:∃ v w',(Instr.endRound l (some j)).run P V2=.ok v w'/\RR (.returned v) w':=by
       refine ⟨_,_,dk,?_,p2,p3,p4,S',⟨p5,p6,p7,p8,ZX S' m7,.inr ⟨rfl,e,s2.hp,s2.B,r2,.inl ⟨rfl,pf⟩,Ks,vu.free,vu.low,p9,?_⟩⟩,lZ,m7⟩
       ·rw [Ll];simp
       ·exact EE
      exact yQ
   | some pv=>cases oz
 -- behind Ws iterator
 refine ⟨l,[HX D0],W1,{ target:=.fn (.func f) (bF.map (ren r)),args:=#[.func (.yield l) #[] #[]] },W1,f,#[Value.func (.yield l) #[] #[]]++bF.map (ren r),W1,?_,?_,λf' Vs=>?_,?_,λh=>fj,?_⟩
 ·rw [<-yn,my];exact run_enterLoop_outer _ _ _ _ _
 ·exact yj
 ·exact yi
 ·simp [invoke,go_sem,pT.enter]
 ·have ON:Sat r (dom (rst s.hp rs)) (rst s.hp rs) W1:=λk b hk=>⟨(lY.block _ (ma.ri.lt (k:=k) xD)).trans (ma.ri.sat k b (mu hk)).1,pT.closed k b hk⟩
  have vd:∀ k,dom (rst s.hp rs) k->dom s.hp k:=λk hk=>by
   exact yD
  subst oz;have BY:=pT.run E l N r S1 W1 (Oo Ao.sat Ao.glob Ao.low) ON (λk l' hk hl=>ma.ri.inj k l' (vd k hk) (vd l' hl)) (λk hk hd=>ma.ri.low k hk (vd k hd)) wG X0 (λk hk=>hk.1) (λi hd h1 hS=>hS.2 ?_)
  ·refine o5 (BY:CallsIn (Fw P none) 0 P _ _ _ _) ?_
   -- Ws ahi SH,behind it all
   have giV:∀ (rc:dR) (ou:Hp) (BE:Nat) (V:World),(∀ x,BE<=x->ou x=none)->100<=BE->Own0 C d So ms s.yc a rc gw ou V->V.heap[D0]? = some (.deferred (some []))->W.heap.size<=V.heap.size ->
     GI P C n d rc ⟨gw,ou,BE,s.yc⟩ { a with defers:=[HX D0]++a.defers } V:=λrc ou BE V eU Tm c8 hD Ag =>
    ⟨⟨ma.ri.size,c8.ri,c8.sat,c8.inj,
     ⟨So,D0::ms,c8.X,λk hk=>iQ (MH k hk) Ag,c8.sep,⟨by simp [vp],fu.2 ⟨λhm=>by have:=(aO.1 (rX D0 hm).1).1;omega,B4⟩⟩,λD zJ=>by
      rcases aj.1 zJ with rfl|zJ
      ·exact ⟨hD,(λhS=>by have:=MH _ hS;omega),QO⟩
      ·exact ⟨c8.mks D zJ,(rX D zJ).2⟩⟩,
     c8.keep,c8.glob,c8.low⟩,eU,Tm,ma.flat,ma.rounds⟩
   have ayT:∀ {S:iH} {V:World} {c:Nat},XX c S V->(∀ V,XX c S V->S l->True)->V.heap[D0]? = some (.deferred (some []))->W.heap.size<=V.heap.size:=λ{S V c} _ _ h=>by
    have:=(aO.1 h).1;omega
   rintro e V ⟨⟨v,rfl⟩,⟨S',hX⟩,als⟩;obtain ⟨MZ,NI,kl,kD,TL,wC⟩:=hX
   have VK:∀ ob k,dom (rst s.hp rs) k->(V.putObj l ob).heap[r k]? = W.heap[r k]?:=λob k hk=>by
    have dp:=ma.ri.lt (vd k hk);rw [eC (λe=>by have e':W.heap.size+1=r k:=e.symm;omega),als k hk];exact lY.block _ dp
   have VZ:∀ (rc:dR) (ou:Hp),(∀ i,dom ou i->S' (rc i))->∀ i,dom ou i->∀ k∈rs,100<=k->rc i≠r k:=λrc ou qj i hd k hk h1 e=>TL (rc i) (qj i hd) ⟨k,hk,h1,e.symm⟩
   have Te:∀ (st:LoopState) (pe:Option Code) (rc:dR) (ou:Hp) (BE:Nat),st≠.busy->(∀ x,BE<=x->ou x=none)->100<=BE->Own0 C d So ms s.yc a rc gw ou V->Lv st pe V ->
     (Instr.endLoop l).run P V=.ok pe (V.putObj l (.loop { rec st pe with state:=.exhausted }))/\GI P C n d rc ⟨gw,ou,BE,s.yc⟩ { a with defers:=[HX D0]++a.defers } (V.putObj l (.loop { rec st pe with state:=.exhausted })):=λst pe rc ou BE Af eU Tm c8 ⟨hl,hD⟩=>by
    exact GP
   rcases wC with ⟨qX,hq,hI,eU,rc,qj,ml⟩|⟨qX,e,ou,BE,rc,ho,hk,eU,Tm,qj,ml⟩
   ·obtain ⟨c8,th⟩:=ml.here;have hNl:N=xs.length:=zO;have abz:min (N+1) xs.length=N:=zO;rw [abz] at hI;obtain ⟨f1,f2⟩:=Te .ready none rc hq B zS eU hw.low c8 th;rcases fin with ⟨_,hK⟩|⟨x',qy,_⟩
    ·exact ⟨none,_,f1,_,rc,⟨hK hq hI,f2⟩,rfl,VK _,VZ rc hq qj⟩
    ·obtain ⟨h9,_⟩:=mK.1 qy;omega
   ·obtain ⟨c8,_,th⟩:=ml.here;rcases ho with ⟨_,ho⟩|⟨pv,h1,_⟩
    ·cases KL:fq e with
     | none=>rw [KL] at ho;cases ho
     | some j =>
      obtain ⟨f1,f2⟩:=Te .done (some j) rc ou BE zS eU Tm c8 (th j KL);refine ⟨some j,_,f1,?_⟩;cases e<;>simp only [fq,bf,reduceCtorEq] at KL
      ·subst KL;exact wpIn_exit ⟨_,rc,⟨hk,f2⟩,rfl,VK _,VZ rc ou qj⟩
      ·subst KL;exact wpIn_goto ⟨_,rc,⟨hk,f2⟩,rfl,VK _,VZ rc ou qj⟩
      ·subst KL;exact wpIn_ret ⟨_,rc,⟨hk,f2⟩,rfl,VK _,VZ rc ou qj⟩
    ·cases h1
  ·exact yq
theorem IterK.under {f:FuncId} {bF:ca} {hp eG:Hp} {rs:List Nat} {xs:List (Array Value)} (h:IterK P G f bF hp rs xs) (e:rst eG rs=rst hp rs):IterK P G f bF eG rs xs :=
 ⟨h.enter,by rw [e];exact h.cids,by rw [e];exact h.closed,by rw [e];exact h.run⟩
def gT (gW:List Nat) (hp0 hp:Hp):Hp:=λk=>if k∈gW then hp0 k else hp k
theorem WeakR.ctx {C':Ctx} {ρ:dR} {s s':GS} (h:C.hp0=C'.hp0) (hG:C.G=C'.G) (hw:WeakR C ρ s s'):WeakR C' ρ s s':=⟨hw.ts,hw.hp,hw.ids,hw.inj,hw.id,by rw [<-hG];exact hw.rest,by rw [<-h];exact hw.keep,by rw [<-hG];exact hw.glob,hw.yc,hw.free,hw.low⟩
theorem It {t:Tmp} {ps:Array Tmp} {assign body:Code} {f:FuncId} {bF:ca} {rs:List Nat} {xs:List (Array Value)} (gW:List Nat) (hY:C.Y=none) (hg:s.ts t=.func (.func f) #[] bF) (pT:IterK P C.G f bF s.hp rs xs)
  (zE:∀ x∈xs,x.size=ps.size/\∀ v∈x,bp v=true) (H7:∀ p∈ps,p<n) (gw Ky:fp) (I:Nat->Hp->Prop) {ow:Hp} (B:Nat) (N:Nat) (hN:N<=xs.length)
  (AS:∀ k∈rs,k∈gW) (has:∀ k∈gW,100<=k/\dom s.hp k) (oM:∀ k∈gW,∀ b,s.hp k=some b->b.ids λq=>q∈gW\/(q<100/\dom C.G q))
  (hw:∀ C0:Ctx,C0.G=C.G->(C0.hp0=λk=>if k∈gW then none else C.hp0 k)->Weak C0 s ⟨gw,ow,B,s.yc⟩) (h0:I 0 ow) (MO:∀ k∈gW,ow k=none)
  (hF:∀ u,Ky u=gw u\/(Ky u=s.ts u/\aL (λq=>q∈gW) (s.ts u)))
  (rounds:∀ i x hq,i<N->xs[i]? = some x->I i hq->∀ (C1:Ctx) (l:Nat),C1.G=C.G->C1.hp0=hq->C1.Y=none->GW P C1 n [] (some l) assign ⟨bG ps.toList x.toList gw,hq,B,0⟩
   (dY (λs1=>∀ C2:Ctx,C2.G=C.G->C2.hp0=hq->C2.Y=none->qF C2 l->GW P C2 n [] (some l) body s1 (dY (λs2=>∃ ρ wE,(∀ C0:Ctx,C0.G=C.G->(C0.hp0=λk=>if k∈gW then none else C.hp0 k)->WeakR C0 ρ ⟨gw,s2.hp,s2.B,s.yc⟩ ⟨gw,wE,B,s.yc⟩)/\I (i+1) wE) (λ_ _=>False))) (λ_ _=>False)))
  (fin:(N=xs.length/\∀ hq,I N hq->(∀ k∈gW,hq k=none/\k<B)/\K .normal ⟨Ky,gT gW s.hp hq,B,s.yc⟩)\/∃ x,xs[N]? = some x/\∀ hq,I N hq->∀ (C1:Ctx) (l:Nat),C1.G=C.G->C1.hp0=hq->C1.Y=none->GW P C1 n [] (some l) assign ⟨bG ps.toList x.toList gw,hq,B,0⟩
    (dY (λs1=>∀ C2:Ctx,C2.G=C.G->C2.hp0=hq->C2.Y=none->qF C2 l->GW P C2 n [] (some l) body s1 (λe s2=>(fq e).isSome=true/\(∀ t,aL (dom s2.hp) (gw t))/\(∀ k∈gW,s2.hp k=none/\k<s2.B)/\K e ⟨Ky,gT gW s.hp s2.hp,s2.B,s.yc⟩)) (λ_ _=>False))) :
  GW P C n d none (.rangeFunc (.tmp t) ps assign body) s K:=by
 intro r a W hi;obtain ⟨So,ms,Y8,MH,Jj,vp,rX⟩:=hi.ri.ext;have aa3:∀ k,k<100->k∉gW:=λk hk hm=>by have:=(has k hm).1;omega
 let A:Nat->Prop:=λj=>∃ i,i∈gW/\i∉rs/\r i=j
 let E':Ext:=⟨λc S V=>C.E.X c So V/\(∀ k,So k->S k)/\∀ j,A j->S j/\V.heap[j]? = W.heap[j]?,
  λc S V V' h hs os tape output size=>⟨C.E.ok _ _ _ _ h.1 (λk hk=>hs k (h.2.1 k hk)) os tape output size,h.2.1,λj hj=>⟨(h.2.2 j hj).1,(hs j (h.2.2 j hj).1).trans (h.2.2 j hj).2⟩⟩⟩
 let C':Ctx:={ C with E:=E',hp0:=λk=>if k∈gW then none else C.hp0 k }
 have NH:=hw C' rfl rfl;let AR:Hp:=λk=>if k∈rs then s.hp k else ow k
 let s':GS:=⟨λu=>if u=t then s.ts t else gw u,AR,s.B,s.yc⟩
 have ayR:∀ k b,ow k=some b->s.hp k=some b:=λk b hb=>by
  by_cases h1:100<=k
  ·rcases NH.hp k h1 with h|h
   ·have h:ow k=none:=h;rw [h] at hb;cases hb
   ·have h:ow k=s.hp k:=h;rw [<-h];exact hb
  ·have h2:ow k=C.G k:=NH.glob k zO;rw [hi.ri.glob k zO,<-h2];exact hb
 have ahO:∀ k b,AR k=some b->s.hp k=some b:=λk b hb=>by
  by_cases h1:k∈rs
  ·have:AR k=s.hp k:=by simp [AR,h1]
   rw [<-this];exact hb
  ·have:AR k=ow k:=by simp [AR,h1]
   exact ayR k b (this▸hb)
 have aaj:∀ k,dom AR k->dom s.hp k:=λk hk=>by
  unfold dom at hk |-
  cases hb:AR k with
  | none=>exact absurd hb hk
  | some b=>rw [ahO k b hb];simp
 have Vg:∀ k,dom ow k->dom AR k:=λk hk=>by
  unfold dom at *
  by_cases h1:k∈rs
  ·exact absurd (MO k (AS k h1)) hk
  ·simpa [AR,h1] using hk
 have aky:rst AR rs=rst s.hp rs:=funext λk=>by
  unfold rst;by_cases h1:k∈rs
  ·simp [AR,h1]
  ·by_cases h2:k<100
   ·have e1:ow k=C.G k:=NH.glob k h2;simp [AR,h1,h2,e1,hi.ri.glob k h2]
   ·simp [h1,h2]
 have aak:∀ k,dom (rst s.hp rs) k->dom AR k:=λk hk=>by
  rw [<-aky] at hk;unfold dom at *
  cases hb:rst AR rs k with
  | none=>exact absurd hb hk
  | some b=>rw [mu hb];simp
 have axu:IterK P C'.G f bF s'.hp rs xs:=pT.under aky
 have cS:GI P C' n d r s' a W:=by
  refine ⟨⟨hi.ri.size,λu=>?_,λk b hk=>⟨(hi.ri.sat k b (ahO k b hk)).1,?_⟩,λk l hk hl e=>hi.ri.inj k l (aaj k hk) (aaj l hl) e,⟨λk=>So k\/A k,ms,⟨Y8,λk hk=>.inl hk,λj hj=>⟨.inr hj,rfl⟩⟩,λk hk=>?_,λi hd h1 hS=>?_,vp,λD hD=>⟨(rX D hD).1,λhS=>?_,(rX D hD).2.2⟩⟩,λi hd=>?_,λk hk=>?_,λk hk hd=>hi.ri.low k hk (aaj k hd)⟩,λx hx=>?_,hi.low,hi.flat,λy hy=>by have hy:C.Y=some y:=hy;rw [hY] at hy;cases hy⟩
  ·by_cases hu:u=t
   ·subst hu
    right
    have e:=(hi.ri.rel u).resolve_left xH;refine ⟨by simpa [s'] using e.1,?_⟩;have e2:s'.ts u=.func (.func f) #[] bF:=by simp [s',hg]
    rw [e2];refine ⟨zS,λx hx=>?_⟩;have:=pT.cids x hx;exact tV aak ((ky this.1).1 this.2)
   ·have e2:s'.ts u=gw u:=by simp [s',hu]
    rw [e2];rcases NH.ts u with h|⟨h,kL⟩
    ·exact Qn
    ·have h:gw u=s.ts u:=h;rcases hi.ri.rel u with h3|h3
     ·exact .inl (h.trans h3)
     ·exact .inr ⟨by rw [h];exact h3.1,jd Vg kL⟩
  ·by_cases h1:k∈rs
   ·have qx:rst s.hp rs k=some b:=by
     have:s.hp k=some b:=ahO k b hk;simp [rst,h1,this]
    exact Blk.ids_mono aak (pT.closed k b qx)
   ·have qx:ow k=some b:=by
     have:AR k=ow k:=by simp [AR,h1]
     exact this▸hk
    exact Blk.ids_mono Vg (NH.ids k b qx)
  ·rcases hk with hk|⟨i,ot,_,rfl⟩
   ·exact MH k hk
   ·exact hi.ri.lt (has i ot).2
  ·rcases hS with hS|⟨i',ot,Ze,e⟩
   ·exact Jj i (aaj i hd) h1 hS
   ·have:i'=i:=hi.ri.inj i' i (has i' ot).2 (aaj i hd) e;subst this;have vc:AR i'≠none:=hd;have:AR i'=ow i':=by simp [AR,Ze]
    exact vc (this.trans (MO i' ot))
  ·rcases hS with hS|⟨i,ot,_,e⟩
   ·exact (rX D hD).2.1 hS
   ·exact hi.ri.ne_mark (has i ot).2 (rX D hD).1 e
  ·have gu:i∉gW:=λhm=>by
    have:(if i∈gW then none else C.hp0 i)≠none:=hd;simp [hm] at this
   have lT:dom C.hp0 i:=by
    have:(if i∈gW then none else C.hp0 i)≠none:=hd;rw [ae gu] at this;exact this
   refine ⟨?_,(hi.ri.keep i lT).2⟩;by_cases h1:100<=i
   ·have hk:=NH.keep i h1 hd;refine Vg i ?_;have h2:=(hi.ri.keep i lT).1;unfold dom at *
    have hk:ow i=s.hp i:=hk;rw [hk];exact h2
   ·have h2:=(hi.ri.keep i lT).1;refine Vg i ?_;have e1:ow i=C.G i:=NH.glob i zO;unfold dom at *
    rw [e1,<-hi.ri.glob i zO];exact h2
  ·have h1:k∉rs:=λhm=>aa3 k hk (AS k hm);have:AR k=ow k:=by simp [AR,h1]
   show AR k=C.G k;rw [this];exact NH.glob k hk
  ·cases hb:AR x with
   | none=>exact hb
   | some b =>
    have h1:s.hp x=none:=hi.free x hx;rw [ahO x b hb] at h1;cases h1
 have kf:Weak C' s' ⟨gw,ow,B,s'.yc⟩:=by
  refine ⟨λu=>?_,λk hk=>?_,NH.ids,λk h1 hd=>?_,NH.glob,rfl,NH.free,NH.low⟩
  ·rcases NH.ts u with h|⟨h,kL⟩
   ·exact Qn
   ·refine .inr ⟨?_,kL⟩;by_cases hu:u=t
    ·subst hu;simpa [s'] using h
    ·simp [s',hu]
  ·by_cases h1:k∈rs
   ·exact .inl (MO k (AS k h1))
   ·exact .inr (by simp [s',AR,h1])
  ·have gu:k∉gW:=λhm=>by
    have:(if k∈gW then none else C.hp0 k)≠none:=hd;simp [hm] at this
   have h2:k∉rs:=λhm=>gu (AS k hm);show ow k=AR k;simp [AR,h2]
 have main:=Yj (P:=P) (C:=C') (n:=n) (d:=d) (s:=s') (K:=λe s2=>(∀ k∈gW,s2.hp k=none/\k<s2.B)/\(∀ u,s2.ts u=gw u)/\s2.yc=s.yc/\K e ⟨Ky,gT gW s.hp s2.hp,s2.B,s.yc⟩) (t:=t) (ps:=ps) (assign:=assign) (body:=body) (f:=f) (bF:=bF) (rs:=rs) (xs:=xs) (by simp [s',hg]) axu zE H7 gw I B N hN kf h0
  (λk hk=>⟨MO k (AS k hk),by have:=(has k (AS k hk)).2;unfold dom at *;simpa [s',AR,hk] using this⟩)
  (λi x hq h1 h2 h3 C1 l h4 h5 h6=>gn (rounds i x hq h1 h2 h3 C1 l h4 h5 h6) λe s1 hs=>by
   cases e with
   | normal =>
    intro C2 q1 q2 q3 q4;refine gn (hs C2 q1 q2 q3 q4) λe s2 nU=>?_
    cases e with
    | normal =>
     obtain ⟨ρ,wE,Zj,RG⟩:=nU;exact ⟨ρ,wE,Zj C' rfl rfl,RG⟩
    | _=>exact nU.elim
   | _=>exact hs.elim)
  (fin.imp (λ⟨h1,h2⟩=>⟨h1,λhq hI=>⟨(h2 hq hI).1,λ_=>rfl,rfl,(h2 hq hI).2⟩⟩) (λ⟨x,h1,h2⟩=>⟨x,h1,λhq hI C1 l q1 q2 q3=>gn (h2 hq hI C1 l q1 q2 q3) λe s1 hs=>by
   cases e with
   | normal =>
    intro C2 p1 p2 p3 p4;exact gn (hs C2 p1 p2 p3 p4) λe s2 nU=>⟨nU.1,nU.2.1,nU.2.2.1,λ_=>rfl,rfl,nU.2.2.2⟩
   | _=>exact hs.elim⟩))
  (by show C.Y≠some .still;rw [hY];simp) cS
 refine wpIn_mono main ?_;rintro e a' W' ⟨s2,r2,⟨⟨gu,arx,hyc,hK⟩,gi⟩,Q5,hkB,hnc⟩;obtain ⟨S2,m2,⟨hX2,afU,Qo⟩,ND,ai0,aqF,alF⟩:=gi.ri.ext;let r3:Nat->Nat:=λk=>if k∈gW then r k else r2 k
 have Nj:∀ k,k∈gW->r3 k=r k:=λk hk=>by simp [r3,hk]
 have JU:∀ k,dom s2.hp k->r3 k=r2 k:=λk hk=>by
  have:k∉gW:=λhm=>hk (gu k hm).1;simp [r3,this]
 have aai:∀ k,k∈gW->dom (gT gW s.hp s2.hp) k:=λk hk=>by
  have:=(has k hk).2;unfold dom gT at *;simpa [hk] using this
 have Vf:∀ k,dom s2.hp k->dom (gT gW s.hp s2.hp) k:=λk hk=>by
  have h1:k∉gW:=λhm=>hk (gu k hm).1;unfold dom gT at *;simpa [h1] using hk
 have ari:∀ k b,gT gW s.hp s2.hp k=some b->(k∈gW/\s.hp k=some b)\/(k∉gW/\s2.hp k=some b):=λk b hb=>by
  unfold gT at hb;by_cases h1:k∈gW
  ·simp only [h1,aV] at hb;exact .inl ⟨h1,hb⟩
  ·simp only [h1,cw] at hb;exact .inr ⟨h1,hb⟩
 have aft:∀ k,dom (gT gW s.hp s2.hp) k->k∈gW\/(k∉gW/\dom s2.hp k):=λk hk=>by
  unfold dom at hk
  cases hb:gT gW s.hp s2.hp k with
  | none=>exact absurd hb hk
  | some b=>exact (ari k b hb).imp (λh=>h.1) (λh=>⟨h.1,by unfold dom;rw [h.2];simp⟩)
 refine ⟨⟨Ky,gT gW s.hp s2.hp,s2.B,s.yc⟩,r3,hK,⟨⟨gi.ri.size,λu=>?_,λk b hk=>?_,λk l hk hl e=>?_,⟨So,m2,?_,λk hk=>ND k (afU k hk),λi hd h1 hS=>?_,aqF,λD hD=>⟨(alF D hD).1,λhS=>(alF D hD).2.1 (afU D hS),(alF D hD).2.2⟩⟩,λi hd=>?_,λk hk=>?_,λk hk hd=>?_⟩,λx hx=>?_,gi.low,hi.flat,hi.rounds⟩⟩
 ·rcases hF u with h|⟨h,kL⟩
  ·rcases gi.ri.rel u with h3|h3
   ·exact .inl (h.trans ((arx u).symm.trans h3))
   ·rw [arx u] at h3
    exact .inr ⟨by
     have e1:a'.tmps.getD u undef=ren r3 (Ky u):=by rw [h,jQ JU h3.2];exact h3.1
     exact e1,by
     have e2:aL (dom (gT gW s.hp s2.hp)) (Ky u):=by rw [h];exact jd Vf h3.2
     exact e2⟩
  ·rcases hi.ri.rel u with h3|h3
   ·exact .inl (h.trans h3)
   ·exact .inr ⟨by
     have e1:a'.tmps.getD u undef=ren r3 (Ky u):=by rw [h,Q5,jQ Nj kL];exact h3.1
     exact e1,by
     have e2:aL (dom (gT gW s.hp s2.hp)) (Ky u):=by rw [h];exact jd aai kL
     exact e2⟩
 ·rcases ari k b hk with ⟨h1,h2⟩|⟨h1,h2⟩
  ·have kL:=oM k h1 b h2
   have dQ:∀ q,q<100->dom C.G q->dom s2.hp q/\dom s.hp q:=λq h5 h6=>by
    have e1:s2.hp q=C.G q:=gi.ri.glob q h5;have e2:s.hp q=C.G q:=hi.ri.glob q h5;unfold dom at *
    rw [e1,e2];exact ⟨h6,h6⟩
   have r3Q:∀ q,(q∈gW\/(q<100/\dom C.G q))->r3 q=r q:=λq hq=>hq.elim (Nj q) λ⟨h5,h6⟩=>by
    obtain ⟨d2,d1⟩:=dQ q h5 h6;rw [JU q d2,gi.ri.low q h5 d2,hi.ri.low q h5 d1]
   refine ⟨?_,Blk.ids_mono (λq hq=>hq.elim (aai q) λ⟨h5,h6⟩=>Vf q (dQ q h5 h6).1) kL⟩;rw [Nj k h1,Blk.obj_congr r3Q kL,<-(hi.ri.sat k b h2).1];by_cases h3:k∈rs
   ·refine hkB k ?_;show dom (rst AR rs) k;rw [aky];unfold dom rst;simp [h3,h2]
   ·exact (Qo (r k) ⟨k,h1,h3,rfl⟩).2
  ·have hd:dom s2.hp k:=by unfold dom;rw [h2];simp
   have h3:=gi.ri.sat k b h2;refine ⟨?_,Blk.ids_mono Vf h3.2⟩;rw [JU k hd,Blk.obj_congr JU h3.2];exact h3.1
 ·have mixed:∀ k l,k∈gW->l∉gW->dom s2.hp l->r k=r2 l->False:=λk l hk hl hd e=>by
   by_cases h3:k∈rs
   ·exact hnc l hd k h3 (has k hk).1 e.symm
   ·by_cases h1:100<=l
    ·exact ai0 l hd h1 (e▸(Qo (r k) ⟨k,hk,h3,rfl⟩).1)
    ·have e1:s2.hp l=C.G l:=gi.ri.glob l zO;have e2:s.hp l=C.G l:=hi.ri.glob l zO;have zA:dom s.hp l:=by unfold dom at *;rw [e2,<-e1];exact hd
     have e3:r2 l=l:=gi.ri.low l zO hd;have e4:r l=l:=hi.ri.low l zO zA;have:k=l:=hi.ri.inj k l (has k hk).2 zA (by rw [e,e3,e4]);exact hl (this▸hk)
  rcases aft k hk with h1|⟨h1,Sp⟩<;>rcases aft l hl with h2|⟨h2,zA⟩
  ·rw [Nj k h1,Nj l h2] at e;exact hi.ri.inj k l (has k h1).2 (has l h2).2 e
  ·rw [Nj k h1,JU l zA] at e;exact (mixed k l h1 h2 zA e).elim
  ·rw [JU k Sp,Nj l h2] at e;exact (mixed l k h2 h1 Sp e.symm).elim
  ·rw [JU k Sp,JU l zA] at e;exact gi.ri.inj k l Sp zA e
 ·have:E'.X s2.yc S2 W':=⟨hX2,afU,Qo⟩
  show C.E.X s.yc So W';rw [<-hyc];exact hX2
 ·rcases aft i hd with h2|⟨h2,zA⟩
  ·rw [Nj i h2] at hS;exact Jj i (has i h2).2 h1 hS
  ·rw [JU i zA] at hS;exact ai0 i zA h1 (afU _ hS)
 ·by_cases h1:i∈gW
  ·exact ⟨aai i h1,(Nj i h1).trans (hi.ri.keep i hd).2⟩
  ·have vc:dom C'.hp0 i:=by
    show (if i∈gW then none else C.hp0 i)≠none;rw [ae h1];exact hd
   have hk:dom s2.hp i/\r2 i=C.r0 i:=gi.ri.keep i vc;exact ⟨Vf i hk.1,(JU i hk.1).trans hk.2⟩
 ·have h1:=aa3 k hk;show gT gW s.hp s2.hp k=C.G k;unfold gT;rw [ae h1];exact gi.ri.glob k hk
 ·have h1:=aa3 k hk;rcases aft k hd with h2|⟨_,zA⟩
  ·exact absurd h2 h1
  ·rw [JU k zA];exact gi.ri.low k hk zA
 ·have hx:s2.B<=x:=hx;have h1:x∉gW:=λhm=>by have:=(gu x hm).2;omega
  show gT gW s.hp s2.hp x=none;unfold gT;rw [ae h1];exact gi.free x hx
theorem Sz {t:Tmp} {ps:Array Tmp} {assign body:Code} {f:FuncId} {bF:ca} {rs:List Nat} {xs:List (Array Value)} (gW:List Nat) (hY:C.Y=none) (hg:s.ts t=.func (.func f) #[] bF) (pT:IterK P C.G f bF s.hp rs xs)
  (zE:∀ x∈xs,x.size=ps.size/\∀ v∈x,bp v=true) (H7:∀ p∈ps,p<n) (gw Ky:fp) (I:Nat->Hp->Prop) {ow:Hp} (B:Nat) (N:Nat) (hN:N<=xs.length)
  (AS:∀ k∈rs,k∈gW) (has:∀ k∈gW,100<=k/\dom s.hp k) (oM:∀ k∈gW,∀ b,s.hp k=some b->b.ids λq=>q∈gW\/(q<100/\dom C.G q))
  (hw:∀ C0:Ctx,C0.G=C.G->(C0.hp0=λk=>if k∈gW then none else C.hp0 k)->Weak C0 s ⟨gw,ow,B,s.yc⟩) (h0:I 0 ow) (MO:∀ k∈gW,ow k=none)
  (hF:∀ u,Ky u=gw u\/(Ky u=s.ts u/\aL (λq=>q∈gW) (s.ts u)))
  (rounds:∀ i x hq,i<N->xs[i]? = some x->I i hq->∀ (C1:Ctx) (l:Nat),C1.G=C.G->C1.hp0=hq->C1.Y=none->GW P C1 n [] (some l) assign ⟨bG ps.toList x.toList gw,hq,B,0⟩
   (dY (λs1=>∀ C2:Ctx,C2.G=C.G->C2.hp0=hq->C2.Y=none->GW P C2 n [] (some l) body s1 (dY (λs2=>∃ ρ wE,(∀ C0:Ctx,C0.G=C.G->(C0.hp0=λk=>if k∈gW then none else C.hp0 k)->WeakR C0 ρ ⟨gw,s2.hp,s2.B,s.yc⟩ ⟨gw,wE,B,s.yc⟩)/\I (i+1) wE) (λ_ _=>False))) (λ_ _=>False)))
  (fin:(N=xs.length/\∀ hq,I N hq->(∀ k∈gW,hq k=none/\k<B)/\K .normal ⟨Ky,gT gW s.hp hq,B,s.yc⟩)\/∃ x,xs[N]? = some x/\∀ hq,I N hq->∀ (C1:Ctx) (l:Nat),C1.G=C.G->C1.hp0=hq->C1.Y=none->GW P C1 n [] (some l) assign ⟨bG ps.toList x.toList gw,hq,B,0⟩
    (dY (λs1=>∀ C2:Ctx,C2.G=C.G->C2.hp0=hq->C2.Y=none->GW P C2 n [] (some l) body s1 (λe s2=>(fq e).isSome=true/\(∀ t,aL (dom s2.hp) (gw t))/\(∀ k∈gW,s2.hp k=none/\k<s2.B)/\K e ⟨Ky,gT gW s.hp s2.hp,s2.B,s.yc⟩)) (λ_ _=>False))) :
  GW P C n d none (.rangeFunc (.tmp t) ps assign body) s K :=
 It gW hY hg pT zE H7 gw Ky I B N hN AS has oM hw h0 MO hF (λi x hq h1 h2 h3 C1 l h4 h5 h6=>gn (rounds i x hq h1 h2 h3 C1 l h4 h5 h6) λe s1 h=>by
   cases e<;>first|exact λC2 k1 k2 k3 _=>h C2 k1 k2 k3|exact h)
  (fin.imp id λ⟨x,hx,h⟩=>⟨x,hx,λhq h3 C1 l h4 h5 h6=>gn (h hq h3 C1 l h4 h5 h6) λe s1 h=>by
   cases e<;>first|exact λC2 k1 k2 k3 _=>h C2 k1 k2 k3|exact h⟩)
theorem KT {t:Tmp} {ps:Array Tmp} {assign body:Code} {f:FuncId} {bF:ca} {rs:List Nat} {xs:List (Array Value)} (gW:List Nat) (hY:C.Y=none) (hg:s.ts t=.func (.func f) #[] bF) (pT:IterK P C.G f bF s.hp rs xs)
  (zE:∀ x∈xs,x.size=ps.size/\∀ v∈x,bp v=true) (H7:∀ p∈ps,p<n) (gw Ky:fp) (I:Nat->Hp->Prop) {ow:Hp} (B:Nat) (N:Nat) (hN:N<=xs.length)
  (AS:∀ k∈rs,k∈gW) (has:∀ k∈gW,100<=k/\dom s.hp k) (oM:∀ k∈gW,∀ b,s.hp k=some b->b.ids λq=>q∈gW)
  (hw:∀ C0:Ctx,C0.G=C.G->(C0.hp0=λk=>if k∈gW then none else C.hp0 k)->Weak C0 s ⟨gw,ow,B,s.yc⟩) (h0:I 0 ow) (MO:∀ k∈gW,ow k=none)
  (hF:∀ u,Ky u=gw u\/(Ky u=s.ts u/\aL (λq=>q∈gW) (s.ts u)))
  (rounds:∀ i x hq,i<N->xs[i]? = some x->I i hq->∀ (C1:Ctx) (l:Nat),C1.G=C.G->C1.hp0=hq->C1.Y=none->GW P C1 n [] (some l) assign ⟨bG ps.toList x.toList gw,hq,B,0⟩
   (dY (λs1=>∀ C2:Ctx,C2.G=C.G->C2.hp0=hq->C2.Y=none->GW P C2 n [] (some l) body s1 (dY (λs2=>∃ ρ wE,(∀ C0:Ctx,C0.G=C.G->(C0.hp0=λk=>if k∈gW then none else C.hp0 k)->WeakR C0 ρ ⟨gw,s2.hp,s2.B,s.yc⟩ ⟨gw,wE,B,s.yc⟩)/\I (i+1) wE) (λ_ _=>False))) (λ_ _=>False)))
  (fin:(N=xs.length/\∀ hq,I N hq->(∀ k∈gW,hq k=none/\k<B)/\K .normal ⟨Ky,gT gW s.hp hq,B,s.yc⟩)\/∃ x,xs[N]? = some x/\∀ hq,I N hq->∀ (C1:Ctx) (l:Nat),C1.G=C.G->C1.hp0=hq->C1.Y=none->GW P C1 n [] (some l) assign ⟨bG ps.toList x.toList gw,hq,B,0⟩
    (dY (λs1=>∀ C2:Ctx,C2.G=C.G->C2.hp0=hq->C2.Y=none->GW P C2 n [] (some l) body s1 (λe s2=>(fq e).isSome=true/\(∀ t,aL (dom s2.hp) (gw t))/\(∀ k∈gW,s2.hp k=none/\k<s2.B)/\K e ⟨Ky,gT gW s.hp s2.hp,s2.B,s.yc⟩)) (λ_ _=>False))) :
  GW P C n d none (.rangeFunc (.tmp t) ps assign body) s K:=by
 refine Sz (f:=f) (rs:=rs) (xs:=xs) (bF:=bF) gW hY hg pT zE H7 gw Ky I B N hN AS has (λk hk b hb=>Blk.ids_mono (λq hq=>.inl hq) (oM k hk b hb)) hw h0 MO hF rounds fin
section
variable {P:Program} {G:Hp}
theorem IterK.rn {f:FuncId} {bF:ca} {hp eG:Hp} {rs:List Nat} {xs:List (Array Value)} (ρ:dR) (eg:c7 G) (hG:∀ k,k<100->hp k=G k) (h:Rn ρ hp eG rs) (hi:IterK P G f bF hp rs xs):IterK P G f (bF.map (aF ρ)) eG (rs.map ρ) xs:=by
 have uq:∀ x,eh x=true->eh (aF ρ x)=true:=λx hx=>by
  exact yr
 have bflat:∀ k b,k<100->hp k=some b->b.rn ρ=b:=λk b hk hb=>by
  exact sX
 have back:∀ k b,rst eG (rs.map ρ) k=some b->∃ q c,rst hp rs q=some c/\ρ q=k/\b=c.rn ρ:=λk b hb=>by
  exact yL
 refine ⟨hi.enter,λx hx=>?_,λk b hb=>?_,λE l stop r S W kE jU jk bC hR hX hS nS=>?_⟩
 ·exact yJ
 ·exact yI
 ·have eK:(bF.map (aF ρ)).map (ren r)=bF.map (ren λk=>r (ρ k)):=by
   exact yR
  rw [eK];refine (hi.run E l stop (λk=>r (ρ k)) S W kE (λk b hk=>⟨?_,hi.closed k b hk⟩) (λk l hk hl e=>?_) (λk hk hd=>?_) hR hX hS (λi hd h1=>?_)).mono (λ_ _ hh=>⟨hh.1,hh.2.1,λk hk=>?_⟩)
  ·exact xM
  ·exact yK
  ·exact ym
  ·exact xW
  ·unfold dom at hk
   cases hb:rst eG (rs.map ρ) k with
   | none=>exact absurd hb hk
   | some b =>
    obtain ⟨q,c,h1,h2,_⟩:=back k b hb;rw [<-h2];exact hh.2.2 q (by unfold dom;rw [h1];simp)
end
end
theorem Dh {p:Prop} (h:p:=by rw [e];exact λx hx=>jd (λq hq=>hm.sub q hq) (ha x hx)):p:=h
theorem pJ {p:Prop} (h:p:=by rw [e];exact hm.closed eg):p:=h
theorem DF {p:Prop} (h:p:=by rw [e];exact jd (λq hq=>hm.sub q hq) hv):p:=h
theorem py {p:Prop} (h:p:=by rw [e];exact hm.free eg hB):p:=h
theorem Dg {p:Prop} (h:p:=by rw [e];exact Blk.ids_mono (λq hq=>hm.sub q hq) (hw p hp).2):p:=h
theorem Hf {p:Prop} (h:p:=by
 cases hb:hpL G m x with
 | none=>rfl
 | some b =>
  rcases dE hb with h1|h1
  ·have:=(h.big _ h1).2;simp at this;omega
  ·have:=(eg x b h1).1;omega):p:=h
theorem DY {p:Prop} (h:p:=by
 obtain ⟨p,hp,rfl⟩:=aC.1 hk;have:=(hw p hp).1;obtain ⟨q,hq,e1⟩:=aC.1 this;exact ⟨this,hm.sub _ this,by rw [<-e1];exact (hm.big q hq).1⟩):p:=h
theorem Hq {p:Prop} (h:p:=by
 obtain ⟨p,hp,rfl⟩:=aC.1 hk;have:=(f2 p hp).1;exact ⟨zO,λhd=>by have:=dp _ hd;omega⟩):p:=h
theorem El {p:Prop} (h:p:=by
 rw [e] at h2 |-;refine gn (h C h1 h2 h3) λe s=>λ⟨q1,q2,v,ns,ρ,q3,q4,q5,q6,q7,q8⟩=>⟨q1,q2,v,ns,ρ,q3,λk hk=>q4 k (dp k hk),λp hp=>?_,q6,q7,q8⟩
 have:=q5 p hp;exact ⟨λhd=>by have:=dp _ hd;omega,zO⟩):p:=h
theorem Eo {p:Prop} (h:p:=by
 subst ea er;exact h.rn ρ eg hm.low (JX hm ρ bC hp0 tS jk)):p:=h
theorem Fa {p:Prop} (h:p:=by
 rw [Blk.rn_id];rcases dE hb with h|h
 ·exact hs _ h
 ·have:=(eg k b h).1;omega):p:=h
theorem EO {p:Prop} (h:p:=by
 dsimp only
 cases hb:hpL G (m 0) k with
 | none=>exact .inl rfl
 | some b =>
  rcases dE hb with h|h
  ·exact .inr (vw _ h).symm
  ·have:=(eg k b h).1;omega):p:=h
theorem Gp {p:Prop} (h:p:=by
 rcases od (l:=l) (t:=u) with h|h
 ·rw [h];simp [fP,aL,cQ,aI,aP]
 ·exact nU.2.1 _ h):p:=h
def Blk.fx (b:Blk):Prop:=match b.T with
 | .ty _=>∀ x∈b.c,bU x=true
 | .raw _ _=>True
 | .mp=>False
theorem Blk.fx_ids {b:Blk} (h:b.fx) (D:iH):b.ids D:=by
 obtain ⟨c,T⟩:=b
 cases T with
 | ty t=>exact Blk.flat_ids (b:=⟨c,.ty t⟩) h
 | raw t fr=>trivial
 | mp=>exact h.elim
theorem Blk.fx_rd {b:Blk} (h:b.fx):b.T.rd=true:=by
 obtain ⟨c,T⟩:=b
 cases T with
 | ty t=>rfl
 | raw t fr=>rfl
 | mp=>exact h.elim
theorem Blk.fx_rn {b:Blk} (h:b.fx) (ρ:dR):b.rn ρ=b:=by
 obtain ⟨c,T⟩:=b
 cases T with
 | ty t=>exact Blk.rn_flat (b:=⟨c,.ty t⟩) h
 | raw t fr=>rfl
 | mp=>exact h.elim
theorem nY {cs:ca} (h:∀ x∈cs,bU x=true) (ρ:dR):cs.map (aw ρ)=cs:=by
 have:=Blk.rn_flat (ρ:=ρ) (b:=⟨cs,.ty 0⟩) h;simpa [Blk.rn] using this
section
variable {P:Program} {G:Hp}
structure LOk (m:cf) (B:Nat):Prop where
 big:∀ p∈m,100<=p.1/\p.1<B
 one:(ak m).Nodup
 ids:∀ p∈m,p.2.ids λk=>k∈ak m
theorem LOk.at {m:cf} (hn:(ak m).Nodup):∀ p∈m,hpL G m p.1=some p.2:=by
 induction m with
 | nil=>intro p hp;cases hp
 | cons q m ih =>
  obtain ⟨k,b⟩:=q;intro p hp;simp only [ak,bI,fu] at hn;rw [bV];rcases aj.1 hp with rfl|hp
  ·simp
  ·have cW:¬p.1=k:=λe=>hn.1 (by rw [<-e];exact aK.2 ⟨p,hp,rfl⟩);rw [ae cW];exact ih hn.2 p hp
theorem LOk.low {m:cf} {B:Nat} (h:LOk m B):∀ k,k<100->hpL G m k=G k:=λ_ hk=>dA (λp hp=>(h.big p hp).1) hk
theorem LOk.rst {m:cf} (eg:c7 G):rst (hpL G m) (ak m)=hpL G m:=qi eg λp hp=>aC.2 ⟨p,hp,rfl⟩
theorem LOk.sub {m:cf} {B:Nat} (h:LOk m B) (k:Nat) (hk:k∈ak m):dom (hpL G m) k:=by
 obtain ⟨p,hp,rfl⟩:=aC.1 hk;unfold dom;rw [LOk.at h.one p hp];simp
theorem LOk.closed {m:cf} {B:Nat} (eg:c7 G) (h:LOk m B) (k:Nat) (b:Blk) (hk:hpL G m k=some b):b.ids (dom (hpL G m)):=by
 rcases dE hk with h1|h1
 ·exact Blk.ids_mono (λq hq=>h.sub q hq) (h.ids (k,b) h1)
 ·exact Blk.flat_ids (eg k b h1).2
theorem LOk.free {m:cf} {B:Nat} (eg:c7 G) (hB:100<=B) (h:LOk m B) (x:Nat) (hx:B<=x):hpL G m x=none:=by
 exact Hf
theorem cg {f:FuncId} {fn:Func} {c:Code} {args:ca} {m:cf} {v:Value} {ws:cf} {B:Nat} (eg:c7 G) (hf:P.funcs[f]? = some fn) (hb:fn.body=some c) (gC:∀ a w,(callFunc f a).run P w=.ok (.enter f a) w)
  (hm:LOk m B) (ha:∀ x∈args,aL (λk=>k∈ak m) x) (hv:aL (λk=>k∈ak m) v) (hw:∀ p∈ws,p.1∈ak m/\p.2.ids (λk=>k∈ak m)) (Kw:∀ k b c,(k,b)∈ws->(k,c)∈ws->b=c) (hn:args.size<=fn.ntmps) (hB:100<=B)
  (h:∀ C:Ctx,C.G=G->C.hp0=hpL G m->C.Y=none->GW P C fn.ntmps [] none c ⟨λt=>args.getD t undef,hpL G m,B,0⟩ (am8 P fn (hpL G m) (.ret v ws))):Fun P G f args (hpL G m) (ak m) (.ret v ws):=by
 have e:=LOk.rst (m:=m) eg;refine wu (B:=B) eg hm.low hf hb gC Dh pJ ⟨DF,λk hk=>?_,Kw,λp hp=>?_⟩ hn hB py (by rw [e];exact h)
 ·exact DY
 ·exact Dg
theorem mZ {f:FuncId} {fn:Func} {c:Code} {bF:ca} {m:cf} {xs:List (Array Value)} {B:Nat} {v:Value} (eg:c7 G) (hf:P.funcs[f]? = some fn) (hb:fn.body=some c) (gC:∀ a w,(callFunc f a).run P w=.ok (.enter f a) w)
  (hm:LOk m B) (ha:∀ x∈bF,eh x=true/\aL (λk=>k∈ak m) x) (hn:bF.size+1<=fn.ntmps) (hB:100<=B)
  (h:∀ (C:Ctx) (l stop:Nat),C.G=G->C.hp0=hpL G m->C.Y=some ⟨l,xs,stop,none,none⟩->GW P C fn.ntmps [] none c ⟨λt=>(#[Value.func (.yield l) #[] #[]]++bF).getD t undef,hpL G m,B,0⟩
   (λe s=>(e=.normal\/e=.ret)/\tB P fn.results.toList s.ts s.hp=some v/\s.yc=min (stop+1) xs.length/\∀ k,dom (hpL G m) k->s.hp k=hpL G m k)):IterK P G f bF (hpL G m) (ak m) xs:=by
 have e:=LOk.rst (m:=m) eg;exact abY (B:=B) (v:=v) eg hm.low hf hb gC (by rw [e];exact λx hx=>⟨(ha x hx).1,jd (λq hq=>hm.sub q hq) (ha x hx).2⟩) pJ hn hB py (by rw [e];exact h)
theorem eW {f:FuncId} {fn:Func} {c:Code} {args:ca} {m:cf} {R:Ij} {B:Nat} (eg:c7 G) (hf:P.funcs[f]? = some fn) (hb:fn.body=some c) (gC:∀ a w,(callFunc f a).run P w=.ok (.enter f a) w)
  (hm:LOk m B) (ha:∀ x∈args,aL (λk=>k∈ak m) x)
  (eI:∀ v ns,R v ns->aL (eo (λk=>k∈ak m) ns) v/\(∀ p∈ns,B<=p.1/\p.2.ids (eo (λk=>k∈ak m) ns))/\(∀ k b c,(k,b)∈ns->(k,c)∈ns->b=c))
  (hn:args.size<=fn.ntmps) (hB:100<=B)
  (h:∀ C:Ctx,C.G=G->C.hp0=hpL G m->C.Y=none->GW P C fn.ntmps [] none c ⟨λt=>args.getD t undef,hpL G m,B,0⟩ λe s=>(e=.normal\/e=.ret)/\(∀ k,dom (hpL G m) k->s.hp k=hpL G m k) /\
   ∃ v ns ρ,R v ns/\(∀ k,k<B->ρ k=k)/\(∀ p∈ns,B<=ρ p.1)/\(∀ p∈ns,∀ q∈ns,ρ p.1=ρ q.1->p.1=q.1)/\tB P fn.results.toList s.ts s.hp=some (ren ρ v)/\∀ p∈ns,s.hp (ρ p.1)=some (p.2.rn ρ)):FunS P G f args (hpL G m) (ak m) R:=by
 have e:=LOk.rst (m:=m) eg
 have dp:∀ k,dom (hpL G m) k->k<B:=λk hk=>by
  refine bu λh1=>hk (hm.free eg hB k zO)
 have ext:∀ ns k,eo (λk=>k∈ak m) ns k->eo (dom (hpL G m)) ns k:=λns k hk=>hk.imp (λh1=>hm.sub k h1) id;refine VV (B:=B) eg hm.low hf hb gC Dh pJ (λv ns hR=>?_) hn hB py (λC h1 h2 h3=>?_)
 ·rw [e];obtain ⟨f1,f2,f3⟩:=eI v ns hR;refine ⟨jd (ext ns) f1,λk hk=>?_,f3,λp hp=>Blk.ids_mono (ext ns) (f2 p hp).2⟩;exact Hq
 ·exact El
theorem fU {m:cf} (eg:c7 G) {hp:Hp} (h1:∀ p∈m,hp p.1=hpL G m p.1) (h2:∀ k,k<100->hp k=hpL G m k):∀ k,dom (hpL G m) k->hp k=hpL G m k:=λk hk=>by
 unfold dom at hk
 cases hb:hpL G m k with
 | none=>exact absurd hb hk
 | some b =>
  rw [<-hb];rcases dE hb with h|h
  ·exact h1 _ h
  ·exact h2 k (eg k b h).1
theorem JX {m:cf} {B:Nat} (hm:LOk m B) (ρ:dR) (bC:∀ k,k<100->ρ k=k) {hp:Hp} (hp0:∀ k,k<100->hp k=G k) (tS:∀ p∈m,100<=ρ p.1/\hp (ρ p.1)=some (p.2.rn ρ)) (jk:∀ k∈ak m,∀ l∈ak m,ρ k=ρ l->k=l):Rn ρ (hpL G m) hp (ak m):=by
 refine ⟨λk hk=>⟨bC k hk,by rw [hp0 k hk,hm.low k hk]⟩,λk hk _=>?_,λk hk _=>?_,λk hk l hl _ _ e=>?_⟩
 ·obtain ⟨p,hp,rfl⟩:=aC.1 hk;exact (tS p hp).1
 ·obtain ⟨p,hp,rfl⟩:=aC.1 hk;exact ⟨p.2,LOk.at hm.one p hp,(tS p hp).2⟩
 ·exact jk k hk l hl e
theorem Xt {f:FuncId} {args gz:ca} {m ws:cf} {B:Nat} {v:Value} {hp:Hp} {nk:Nat} {K:Eff->Prop} (h:Fun P G f args (hpL G m) (ak m) (.ret v ws)) (eg:c7 G) (hm:LOk m B) (ρ:dR) (bC:∀ k,k<100->ρ k=k) (ea:args.map (ren ρ)=gz)
  (tS:∀ p∈m,100<=ρ p.1/\hp (ρ p.1)=some (p.2.rn ρ)) (jk:∀ k∈ak m,∀ l∈ak m,ρ k=ρ l->k=l) (hK:K ((Res.ret (ren ρ v) (rnL ρ ws)).eff ((ak m).map ρ))):qO P G f gz hp nk K:=by
 let eG:Hp:=λk=>if k<100 then G k else hp k
 have h1:Rn ρ (hpL G m) eG (ak m):=JX hm ρ bC (λk hk=>by simp [eG,hk]) (λp hp1=>⟨(tS p hp1).1,by
  show (if ρ p.1<100 then G (ρ p.1) else hp (ρ p.1))=_;have:=(tS p hp1).1;rw [ae zO];exact (tS p hp1).2⟩) jk
 subst ea;refine iE (h.rn ρ eg hm.low h1) (λk hk=>?_) (λk hk=>by simp [eG,hk]) (by exact trivial) hK;obtain ⟨q,hq,rfl⟩:=aK.1 hk;obtain ⟨p,hp1,rfl⟩:=aC.1 hq;show (if ρ p.1<100 then G (ρ p.1) else hp (ρ p.1))=_;have:=(tS p hp1).1;rw [ae zO]
theorem aE {f:FuncId} {args gz:ca} {m:cf} {B:Nat} {v:Value} {hp:Hp} {nk:Nat} {K:Eff->Prop} (h:Fun P G f args (hpL G m) (ak m) (.ret v [])) (eg:c7 G) (hm:LOk m B) (ρ:dR) (bC:∀ k,k<100->ρ k=k) (ea:args.map (ren ρ)=gz) (hv:bp v=true)
  (tS:∀ p∈m,100<=ρ p.1/\hp (ρ p.1)=some (p.2.rn ρ)) (jk:∀ k∈ak m,∀ l∈ak m,ρ k=ρ l->k=l) {rs:List Nat} (er:(ak m).map ρ=rs) (hK:K ((Res.ret v []).eff rs)):qO P G f gz hp nk K :=
 Xt h eg hm ρ bC ea tS jk (by rw [bS hv,er];exact hK)
theorem tX {f:FuncId} {bF u7:ca} {m:cf} {B:Nat} {xs:List (Array Value)} {hp:Hp} {rs:List Nat} (h:IterK P G f bF (hpL G m) (ak m) xs) (eg:c7 G) (hm:LOk m B) (ρ:dR) (bC:∀ k,k<100->ρ k=k) (ea:bF.map (aF ρ)=u7) (er:(ak m).map ρ=rs)
  (hp0:∀ k,k<100->hp k=G k) (tS:∀ p∈m,100<=ρ p.1/\hp (ρ p.1)=some (p.2.rn ρ)) (jk:∀ k∈ak m,∀ l∈ak m,ρ k=ρ l->k=l):IterK P G f u7 hp rs xs:=by
 exact Eo
end
section
variable {P:Program} {C:Ctx} {n:Nat} {d:List Deferred} {s:GS} {K:l6} {G:Hp}
theorem Wd (v:Value):aW (λk=>k) v=v:=by
 cases v with
 | agg cs=>simp only [aW];rw [bY (λx _=>uR x)];simp
 | _=>unfold aW;exact uR _
theorem adq (v:Value):ren (λk=>k) v=v:=by
 cases v with
 | tuple cs=>simp only [ren];rw [bY (λx _=>Wd x)];simp
 | _=>unfold ren;exact Wd _
theorem Blk.rn_id (b:Blk):b.rn (λk=>k)=b:=by
 obtain ⟨c,T⟩:=b
 cases T with
 | ty t=>simp only [Blk.rn];rw [bY (λx _=>uR x)];simp
 | raw t fr=>rfl
 | mp=>simp only [Blk.rn];rw [bY (λx _=>uR x)];simp
theorem ahU {l l2:List (Nat×Value)} {u:Nat}:tsL (l++l2) u=tsL l u\/(u,tsL (l++l2) u)∈l2:=by
 induction l with
 | nil =>
  rcases od (l:=l2) (t:=u) with h|h
  ·exact Qn
  ·exact .inr h
 | cons p l ih =>
  obtain ⟨k,v⟩:=p;rw [bj,Kf,Kf];by_cases h:u=k
  ·left;rw [ag h,ag h]
  ·rw [ae h,ae h];exact ih
theorem Cq {t:Tmp} {ps:Array Tmp} {assign body:Code} {f:FuncId} {bF:ca} {rs:List Nat} {xs:List (Array Value)} {m0:cf} (gW:List Nat) (eg:c7 G) (hG:C.G=G) (h0:C.hp0=hpL G m0) (hY:C.Y=none) (hg:s.ts t=.func (.func f) #[] bF) (pT:IterK P G f bF s.hp rs xs)
  (zE:∀ x∈xs,x.size=ps.size/\∀ v∈x,bp v=true) (H7:∀ p∈ps,p<n) (l l2:List (Nat×Value)) (m:Nat->List (Nat×Blk)) (B:Nat) (N:Nat) (hN:N<=xs.length) (hB:100<=B)
  (AS:∀ k∈rs,k∈gW) (has:∀ k∈gW,100<=k/\dom s.hp k/\k<B) (oM:∀ k∈gW,∀ b,s.hp k=some b->b.ids λq=>q∈gW)
  (hl:∀ p∈l,s.ts p.1=p.2) (uH:∀ p∈l2,s.ts p.1=p.2/\aL (λq=>q∈gW) p.2)
  (vw:∀ p∈m 0,s.hp p.1=some p.2) (hm:∀ i,i<=N->(∀ p∈l,aL (dom (hpL G (m i))) p.2)/\∀ p∈m i,100<=p.1/\p.1<B/\p.1∉gW/\p.2.ids (dom (hpL G (m i))))
  (hk:∀ p∈m0,p.1∈gW\/(100<=p.1/\hpL G (m 0) p.1=s.hp p.1/\∀ i,i<=N->dom (hpL G (m i)) p.1))
  (rounds:∀ i x,i<N->xs[i]? = some x->∀ (C1:Ctx) (j:Nat),C1.G=G->C1.hp0=hpL G (m i)->C1.Y=none->GW P C1 n [] (some j) assign ⟨bG ps.toList x.toList (tsL l),hpL G (m i),B,0⟩
   (dY (λs1=>∀ C2:Ctx,C2.G=G->C2.hp0=hpL G (m i)->C2.Y=none->qF C2 j->GW P C2 n [] (some j) body s1 (dY (λs2=>∀ p∈m (i+1),s2.hp p.1=some p.2) (λ_ _=>False))) (λ_ _=>False)))
  (fin:(N=xs.length/\K .normal ⟨tsL (l++l2),gT gW s.hp (hpL G (m N)),B,s.yc⟩)\/∃ x,xs[N]? = some x/\∀ (C1:Ctx) (j:Nat),C1.G=G->C1.hp0=hpL G (m N)->C1.Y=none->GW P C1 n [] (some j) assign ⟨bG ps.toList x.toList (tsL l),hpL G (m N),B,0⟩
    (dY (λs1=>∀ C2:Ctx,C2.G=G->C2.hp0=hpL G (m N)->C2.Y=none->qF C2 j->GW P C2 n [] (some j) body s1 (λe s2=>(fq e).isSome=true/\(∀ p∈l,aL (dom s2.hp) p.2)/\(∀ k∈gW,s2.hp k=none/\k<s2.B)/\K e ⟨tsL (l++l2),gT gW s.hp s2.hp,s2.B,s.yc⟩)) (λ_ _=>False))) :
  GW P C n d none (.rangeFunc (.tmp t) ps assign body) s K:=by
 have asn:∀ i,i<=N->∀ k∈gW,hpL G (m i) k=none:=λi hi k pf=>by
  cases hb:hpL G (m i) k with
  | none=>rfl
  | some b =>
   rcases dE hb with h|h
   ·exact absurd pf ((hm i hi).2 _ h).2.2.1
   ·have:=(eg k b h).1;have:=(has k pf).1;omega
 have Jq:∀ i,i<=N->∀ C0:Ctx,C0.G=C.G->(C0.hp0=λk=>if k∈gW then none else C.hp0 k)->∀ s2:GS,s2.yc=s.yc->(∀ p∈m i,s2.hp p.1=some p.2)->s2.ts=tsL l->WeakR C0 (λk=>k) s2 ⟨tsL l,hpL G (m i),B,s.yc⟩:=λi hi C0 c1 c2 s2 hyc hs ht=>by
  refine ⟨λu=>?_,λk b hb h1=>⟨?_,h1⟩,λk b hb=>?_,λk q _ _ e=>e,λ_ _=>rfl,λk b _ _=>Blk.rn_id b,λk h1 hd=>⟨?_,rfl⟩,λk h1=>?_,hyc.symm,λx hx=>?_,hB⟩
  ·rcases od (l:=l) (t:=u) with h|h
   ·exact Qn
   ·by_cases hj:tsL l u=fP
    ·exact .inl hj
    ·exact .inr ⟨by rw [ht,adq],by rw [ht];exact hj,(hm i hi).1 _ h⟩
  ·exact Fa
  ·rcases dE hb with h|h
   ·exact ((hm i hi).2 _ h).2.2.2
   ·exact Blk.flat_ids (eg k b h).2
  ·have gu:k∉gW:=λAP=>by
    have h2:C0.hp0 k≠none:=hd;rw [c2] at h2;exact h2 (ag AP)
   have h2:C0.hp0 k≠none:=hd;rw [c2] at h2;simp only [ae gu] at h2;rw [h0] at h2
   cases hb:hpL G m0 k with
   | none=>exact absurd hb h2
   | some b =>
    rcases dE hb with h|h
    ·rcases hk _ h with h3|h3
     ·exact absurd h3 gu
     ·exact h3.2.2 i hi
    ·have:=(eg k b h).1;omega
  ·rw [c1,hG];exact dA (λp hp=>((hm i hi).2 p hp).1) h1
  ·dsimp only at hx |-
   cases hb:hpL G (m i) x with
   | none=>rfl
   | some b =>
    rcases dE hb with h|h
    ·have:=((hm i hi).2 _ h).2.1;simp at this;omega
    ·have:=(eg x b h).1;omega
 refine It (rs:=rs) (xs:=xs) gW hY hg (hG.symm▸pT) zE H7 (tsL l) (tsL (l++l2)) (λi h=>h=hpL G (m i)) (ow:=hpL G (m 0)) B N hN AS (λk pf=>⟨(has k pf).1,(has k pf).2.1⟩) (λk hk b hb=>Blk.ids_mono (λq hq=>.inl hq) (oM k hk b hb)) (λC0 c1 c2=>?_) rfl (asn 0 (fX _)) (λu=>?_) (λi x hq hi hx hI C1 j c1 c2 c3=>?_) ?_
 ·refine ⟨λu=>?_,λk h1=>?_,(Jq 0 (fX _) C0 c1 c2 ⟨tsL l,s.hp,s.B,s.yc⟩ rfl vw rfl).ids,λk h1 hd=>?_,(Jq 0 (fX _) C0 c1 c2 ⟨tsL l,s.hp,s.B,s.yc⟩ rfl vw rfl).glob,rfl,(Jq 0 (fX _) C0 c1 c2 ⟨tsL l,s.hp,s.B,s.yc⟩ rfl vw rfl).free,hB⟩
  ·rcases od (l:=l) (t:=u) with h|h
   ·exact Qn
   ·exact .inr ⟨(hl _ h).symm,(hm 0 (fX _)).1 _ h⟩
  ·exact EO
  ·have h2:C0.hp0 k≠none:=hd;rw [c2] at h2;have gu:k∉gW:=λAP=>h2 (ag AP);simp only [ae gu] at h2;rw [h0] at h2
   cases hb:hpL G m0 k with
   | none=>exact absurd hb h2
   | some b =>
    rcases dE hb with h|h
    ·rcases hk _ h with h3|h3
     ·exact absurd h3 gu
     ·exact h3.2.1
    ·have:=(eg k b h).1;omega
 ·rcases ahU (l:=l) (l2:=l2) (u:=u) with h|h
  ·exact Qn
  ·exact .inr ⟨(uH _ h).1.symm,by rw [(uH _ h).1];exact (uH _ h).2⟩
 ·subst hI;refine gn (rounds i x hi hx C1 j (c1.trans hG) c2 c3) λe s1 hs=>?_
  cases e with
  | normal =>
   intro C2 q1 q2 q3 q4;refine gn (hs C2 (q1.trans hG) q2 q3 q4) λe s2 nU=>?_
   cases e with
   | normal=>exact ⟨λk=>k,_,λC0 z1 z2=>Jq (i+1) hi C0 z1 z2 _ rfl nU rfl,rfl⟩
   | _=>exact nU.elim
  | _=>exact hs.elim
 ·rcases fin with ⟨f1,f2⟩|⟨x,f1,f2⟩
  ·exact .inl ⟨f1,λhq hI=>by subst hI;exact ⟨λk pf=>⟨asn N (aA _) k pf,(has k pf).2.2⟩,f2⟩⟩
  ·refine .inr ⟨x,f1,λhq hI C1 j c1 c2 c3=>?_⟩;subst hI;refine gn (f2 C1 j (c1.trans hG) c2 c3) λe s1 hs=>?_
   cases e with
   | normal =>
    intro C2 q1 q2 q3 q4;refine gn (hs C2 (q1.trans hG) q2 q3 q4) λe s2 nU=>⟨nU.1,λu=>?_,nU.2.2.1,nU.2.2.2⟩
    exact Gp
   | _=>exact hs.elim
theorem uw {t:Tmp} {ps:Array Tmp} {assign body:Code} {f:FuncId} {bF:ca} {rs:List Nat} {xs:List (Array Value)} {m0:cf} (gW:List Nat) (eg:c7 G) (hG:C.G=G) (h0:C.hp0=hpL G m0) (hY:C.Y=none) (hg:s.ts t=.func (.func f) #[] bF) (pT:IterK P G f bF s.hp rs xs)
  (zE:∀ x∈xs,x.size=ps.size/\∀ v∈x,bp v=true) (H7:∀ p∈ps,p<n) (l l2:List (Nat×Value)) (m:Nat->List (Nat×Blk)) (B:Nat) (N:Nat) (hN:N<=xs.length) (hB:100<=B)
  (AS:∀ k∈rs,k∈gW) (has:∀ k∈gW,100<=k/\dom s.hp k/\k<B) (oM:∀ k∈gW,∀ b,s.hp k=some b->b.ids λq=>q∈gW)
  (hl:∀ p∈l,s.ts p.1=p.2) (uH:∀ p∈l2,s.ts p.1=p.2/\aL (λq=>q∈gW) p.2)
  (vw:∀ p∈m 0,s.hp p.1=some p.2) (hm:∀ i,i<=N->(∀ p∈l,aL (dom (hpL G (m i))) p.2)/\∀ p∈m i,100<=p.1/\p.1<B/\p.1∉gW/\p.2.ids (dom (hpL G (m i))))
  (hk:∀ p∈m0,p.1∈gW\/(100<=p.1/\hpL G (m 0) p.1=s.hp p.1/\∀ i,i<=N->dom (hpL G (m i)) p.1))
  (rounds:∀ i x,i<N->xs[i]? = some x->∀ (C1:Ctx) (j:Nat),C1.G=G->C1.hp0=hpL G (m i)->C1.Y=none->GW P C1 n [] (some j) assign ⟨bG ps.toList x.toList (tsL l),hpL G (m i),B,0⟩
   (dY (λs1=>∀ C2:Ctx,C2.G=G->C2.hp0=hpL G (m i)->C2.Y=none->GW P C2 n [] (some j) body s1 (dY (λs2=>∀ p∈m (i+1),s2.hp p.1=some p.2) (λ_ _=>False))) (λ_ _=>False)))
  (fin:(N=xs.length/\K .normal ⟨tsL (l++l2),gT gW s.hp (hpL G (m N)),B,s.yc⟩)\/∃ x,xs[N]? = some x/\∀ (C1:Ctx) (j:Nat),C1.G=G->C1.hp0=hpL G (m N)->C1.Y=none->GW P C1 n [] (some j) assign ⟨bG ps.toList x.toList (tsL l),hpL G (m N),B,0⟩
    (dY (λs1=>∀ C2:Ctx,C2.G=G->C2.hp0=hpL G (m N)->C2.Y=none->GW P C2 n [] (some j) body s1 (λe s2=>(fq e).isSome=true/\(∀ p∈l,aL (dom s2.hp) p.2)/\(∀ k∈gW,s2.hp k=none/\k<s2.B)/\K e ⟨tsL (l++l2),gT gW s.hp s2.hp,s2.B,s.yc⟩)) (λ_ _=>False))) :
  GW P C n d none (.rangeFunc (.tmp t) ps assign body) s K :=
 Cq gW eg hG h0 hY hg pT zE H7 l l2 m B N hN hB AS has oM hl uH vw hm hk (λi x h1 h2 C1 j h4 h5 h6=>gn (rounds i x h1 h2 C1 j h4 h5 h6) λe s1 h=>by
   cases e<;>first|exact λC2 k1 k2 k3 _=>h C2 k1 k2 k3|exact h)
  (fin.imp id λ⟨x,hx,h⟩=>⟨x,hx,λC1 j h4 h5 h6=>gn (h C1 j h4 h5 h6) λe s1 h=>by
   cases e<;>first|exact λC2 k1 k2 k3 _=>h C2 k1 k2 k3|exact h⟩)
end
end Go.Gy
namespace Go.Gy
open Go Go.RowKit
theorem zR {G : Hp} {m : List (Nat × Blk)} (eg : c7 G) {hp : Hp} (h1 : ∀ p ∈ m, hp p.1 = hpL G m p.1 := by simp) (h2 : ∀ k, k < 100 -> hp k = hpL G m k := by (intro k hk; first | rfl | (simp (disch := omega) only [gT, aj, az, ay, ao, bV, eH, ae, bH] <;> done))) : ∀ k, dom (hpL G m) k -> hp k = hpL G m k := fU eg h1 h2
theorem Aj {G : Hp} {m : List (Nat × Blk)} (eg : c7 G) {hp : Hp} (h1 : ∀ p ∈ m, hp p.1 = hpL G m p.1 := by (intro p hp; have HR := hT.ok.big p hp; first | rfl | (simp (disch := omega) only [gT, ao, bV, eH, ae, bH, bj, bq] <;> done))) (h2 : ∀ k, k < 100 -> hp k = hpL G m k := by (intro k hk; first | exact jj k hk | (simp (disch := omega) only [jj, gT, aj, az, ay, ao, bV, eH, ae, bH, bj, bq] <;> done))) : ∀ k, dom (hpL G m) k -> hp k = hpL G m k := fU eg h1 h2
theorem fS {L : List (Nat × Blk)} {hp : Hp} (h : ∀ p ∈ L, hp p.1 = some p.2 := by (intro p hp; have HR := hT.ok.big p hp; (try dsimp only); simp (disch := omega) only [gT, ao, bV, eH, ae, bH, bj, bq]; first | exact hT.mem p hp | exact cL p hp)) : ∀ p ∈ L, hp p.1 = some p.2 := h
end Go.Gy
namespace Go.Gy
open Go Go.RowKit
theorem eS {X A B C : Prop} (x : X) (b : X -> B := by intro x; simp [x]) (a : A := by exact .inr rfl) (c : C := by exact zR G0F) : A /\ B /\ C := ⟨a, b x, c⟩
theorem eT {X A B C : Prop} (x : X) (b : X -> B := by intro x; simp [x]) (a : A := by exact .inr rfl) (c : C := by exact Aj G0F) : A /\ B /\ C := ⟨a, b x, c⟩
end Go.Gy
namespace Go.Gy
open Go Go.RowKit
@[simp] theorem rg1:Array.range 1=#[0]:=rfl
@[simp] theorem rg2:Array.range 2=#[0,1]:=rfl
@[simp] theorem rg3:Array.range 3=#[0,1,2]:=rfl
@[simp] theorem rg4:Array.range 4=#[0,1,2,3]:=rfl
@[simp] theorem rg5:Array.range 5=#[0,1,2,3,4]:=rfl
@[simp] theorem rg6:Array.range 6=#[0,1,2,3,4,5]:=rfl
@[simp] theorem aEH:Array.range 20=#[0,1,2,3,4,5,6,7,8,9,10,11,12,13,14,15,16,17,18,19]:=rfl
@[simp] theorem aEI:Array.range 36=#[0,1,2,3,4,5,6,7,8,9,10,11,12,13,14,15,16,17,18,19,20,21,22,23,24,25,26,27,28,29,30,31,32,33,34,35]:=rfl
section
variable {P:Program} {G:Hp} {V:XV} {yc nk:Nat} {ts:fp} {hp:Hp} {C:Eff->Prop} {dst:Option Tmp} {type:TypeId} {pos:String} {after:Array Edge} {guard:Option (Nat×Bool)}
def bsZ (e len m nk:Nat) (ps:List (Nat×Value)) (z:Option Value) (C:Eff->Prop):Prop :=
 match z with
 | some z=>cI z=true/\bp z=true/\0<len*m/\len*m<=16777216/\bsX (pd (.inr m) ((Array.range (len*m)).map (z.cells[·%z.cells.size]!)) ps) e len nk C
 | none=>False
@[simp] theorem apQ (e len m nk:Nat) (ps:List (Nat×Value)) (z:Value) (C:Eff->Prop):bsZ e len m nk ps (some z) C=(cI z=true/\bp z=true/\0<len*m/\len*m<=16777216/\bsX (pd (.inr m) ((Array.range (len*m)).map (z.cells[·%z.cells.size]!)) ps) e len nk C):=rfl
def bsM (P:Program) (e len nk:Nat) (ps:List (Nat×Value)) (m:Option Nat) (C:Eff->Prop):Prop :=
 match m with
 | some m=>bsZ e len m nk ps (dm P e) C
 | none=>False
@[simp] theorem apN (P:Program) (e len m nk:Nat) (ps:List (Nat×Value)) (C:Eff->Prop):bsM P e len nk ps (some m) C=bsZ e len m nk ps (dm P e) C:=rfl
def bsU (P:Program) (len nk:Nat) (ps:List (Nat×Value)) (u:Option TypeDesc) (C:Eff->Prop):Prop :=
 match u with
 | some (.slice e)=>bsM P e len nk ps (bo P e) C
 | _=>False
@[simp] theorem apO (P:Program) (e len nk:Nat) (ps:List (Nat×Value)) (C:Eff->Prop):bsU P len nk ps (some (.slice e)) C=bsM P e len nk ps (bo P e) C:=rfl
@[simp ↓] theorem acT (T:TypeId) (len:Nat) (parts:Array (Nat×Operand)):opX P G V yc ⟨dst,.buildSlice T len parts,type,pos,after,guard⟩ ts hp nk C =
  ((∀ p∈parts.toList,okX ts hp p.2/\cI (gev ts p.2)=true)/\bsU P len nk (mc ts parts) (P.underlying T) C):=by
 unfold opX bsU;simp only
 cases hu:P.underlying T with
 | none=>rfl
 | some u =>
  cases u with
  | slice e =>
   simp only [bsM]
   cases hm:bo P e with
   | none=>rfl
   | some m =>
    simp only [bsZ]
    cases hz:dm P e with
    | none=>rfl
    | some z =>
     simp only;cases hf:pd (.inr m) ((Array.range (len*m)).map (z.cells[·%z.cells.size]!)) (mc ts parts)<;>rfl
  | _=>rfl
@[simp] theorem au0 (e m:Nat) (z:Value) (b:Nat) (l:Int) (w:Value) (C:Eff->Prop):msZ P e m nk (some z) (some b) (.int .i64 l) w C=(w=.int .i64 l/\cI z=true/\bp z=true/\(0<l/\l<=4096)/\b<=4096/\0<m/\C ⟨.slice (some ⟨nk,0,none⟩) l.toNat l.toNat,[],[],[(nk,⟨(Array.range (l.toNat*m)).map (z.cells[·%z.cells.size]!),e⟩)],none,false⟩):=rfl
@[simp] theorem asi (e m:Nat) (v w:Value) (C:Eff->Prop):msM P e nk (some m) v w C=msZ P e m nk (dm P e) (KR P e) v w C:=rfl
@[simp] theorem aoO (e:Nat) (v w:Value) (C:Eff->Prop):msU P nk (some (.slice e)) v w C=msM P e nk (bo P e) v w C:=rfl
@[simp ↓] theorem aeC (T:TypeId) (x y:Operand):opX P G V yc ⟨dst,.makeSlice T x y,type,pos,after,guard⟩ ts hp nk C=(okX ts hp x/\okX ts hp y/\msU P nk (P.underlying T) (gev ts x) (gev ts y) C):=nr rfl
end
end Go.Gy
namespace Go.Gy
open Go Go.RowKit Go.Proofs Go.Proofs.Tryz
theorem sH {p:Prop} (h:p:=by simp [ak];omega):p:=h
theorem lL {p:Prop} (h:p:=by simp [uN,ak]):p:=h
theorem xq {p:Prop} (h:p:=by simp [uN,aM,aI,aP,ak]):p:=h
theorem E6 {p:Prop} (h:p:=by
 refine ⟨gb,sH,λq b c h1 h2=>?_⟩;simp at h1 h2;rw [h1.2,h2.2]):p:=h
theorem F3 {p:Prop} (h:p:=by
 refine ⟨zS,by simp [results145],by first|(simp;omega)|omega,λk hk=>?_⟩;have hk:=dp k hk;simp (disch:=omega) only [ao]
 rfl):p:=h
theorem Ex {p:Prop} (h:p:=by
 refine ⟨zS,by simp [results145],zS,λk hk=>?_⟩;have hk:=dp k hk;simp (disch:=omega) only [ao]
 rfl):p:=h
def vf (x0 x1 x2:Int):Nat->Int
 | 0=>x0
 | 1=>x1
 | _=>x2
def vf2 (x0 x1 x2 y0 y1 y2:Int):Nat->Int
 | 0=>x0
 | 1=>x1
 | 2=>x2
 | 3=>y0
 | 4=>y1
 | _=>y2
def xsV (N:Nat) (f:aJ):List (Array Value):=(List.range N).map λj=>#[.int .i64 ((j%3:Nat):Int),.int .i64 (f j)]
theorem Co (N:Nat) (f:aJ) (i:Nat) (h:i<N):(xsV N f)[i]? = some #[.int .i64 ((i%3:Nat):Int),.int .i64 (f i)]:=by simp [xsV,h]
theorem uW (b k m c:Nat) (cs:ca) (AK:∀ x∈cs,bU x=true) (hb:100<=b) (oL:b<100000) (hk:100<=k) (hbk:b≠k):Fun prog G0 125 #[.slice (some ⟨b,0,none⟩) m c] (hpL G0 [(b,⟨cs,.ty 70⟩)]) [b] (.new (.func (.func 145) #[] #[.pointer (some ⟨k,0,none⟩)]) [(k,⟨#[.slice (some ⟨b,0,none⟩) m c],.ty 167⟩)]):=by
 have e0:rst (hpL G0 [(b,⟨cs,.ty 70⟩)]) [b]=hpL G0 [(b,⟨cs,.ty 70⟩)]:=qi G0F zS
 have ak9:∀ j,dom (hpL G0 [(b,⟨cs,.ty 70⟩)]) j->j=b\/j<100:=λj hj=>by
  unfold dom at hj
  cases hq:hpL G0 [(b,⟨cs,.ty 70⟩)] j with
  | none=>exact absurd hq hj
  | some q =>
   rcases dE hq with h|h
   ·simp at h;exact .inl h.1
   ·exact .inr (G0F j q h).1
 have hdb:dom (hpL G0 [(b,⟨cs,.ty 70⟩)]) b:=by unfold dom;simp
 refine Nc (B:=100000) (λj=>if j=k then 100000 else j) G0F (λj hj=>dA aB hj) func125 rfl call125 ?_ ?_ ?_ (by simp [ntmps125]) zO ?_ (λj hj=>?_) ?_ ?_ ?_ ?_
 ·rw [e0];simp [aL,cQ,aI,aP];exact hdb
 ·rw [e0];intro j q hq;rcases dE hq with h|h
  ·simp at h;rw [h.2];exact Blk.flat_ids AK
  ·exact qt _ _ _ h
 ·exact E6
 ·rw [e0];intro x hx;simp [(zO:¬x=b),(zO:100<=x)]
 ·rw [e0] at hj;rcases ak9 j hj with h|h
  ·rw [ae zO]
  ·rw [ae zO]
 ·rw [e0];intro p hp;simp at hp;subst hp;refine ⟨λh=>?_,zS⟩;rcases ak9 _ h with h|h<;>simp at h<;>omega
 ·simp
 ·rw [e0];simp [aI,aP];exact hdb
 ·intro C hC bA hY;rw [e0];have hbB:¬b=100000:=zO;have hBb:¬100000=b:=zO;refine cA (k3 hbB hBb hbk) ?_;refine ⟨.inr trivial,?_⟩;simp [results125,ren,aW,aw,aF];intro j hj;rcases ak9 j hj with h|h
  ·have:¬j=100000:=zO;simp [this]
  ·have:¬j=100000:=zO;simp [this]
def uN (x0 x1 x2:Int):List (Nat×Blk):=[(100,⟨#[.slice (some ⟨108,0,none⟩) 1 1],.ty 167⟩),(108,⟨#[.int .i64 x0,.int .i64 x1,.int .i64 x2],.ty 70⟩)]
abbrev pv1 (x0 x1 x2:Int):Hp:=hpL G0 (uN x0 x1 x2)
theorem r7 (x0 x1 x2:Int):IterK prog G0 145 #[.pointer (some ⟨100,0,none⟩)] (pv1 x0 x1 x2) [100,108] (xsV 3 (vf x0 x1 x2)):=by
 have hL:LOk (uN x0 x1 x2) 200:=⟨by simp [uN],lL,xq⟩
 have dp:∀ k,dom (hpL G0 (uN x0 x1 x2)) k->k<200:=λk hk=>bu λh1=>hk (hL.free G0F zO k zO);refine mZ (m:=uN x0 x1 x2) (B:=200) (v:=.tuple #[]) G0F func145 rfl call145 hL ?_ (by simp [ntmps145]) zO ?_
 ·simp [aL,cQ,aI,aP,uN,ak]
 ·intro C l stop hC bA hY;have aH:xsV 3 (vf x0 x1 x2)=[#[.int .i64 0,.int .i64 x0],#[.int .i64 1,.int .i64 x1],#[.int .i64 2,.int .i64 x2]]:=rfl;rw [aH] at hY |-;by_cases h3:3<=stop
  ·have q0:(0 != stop)=true:=by simp;omega
   have q1:(1 != stop)=true:=aB;have q2:(2 != stop)=true:=aB;have l1:1<=stop:=zO;have l2:2<=stop:=zO;refine qv (k7 @uN.eq_1 q0 q1 q2 l1 l2 h3) ?_;exact F3
  ·have:stop=0\/stop=1\/stop=2:=zO;rcases this with rfl|rfl|rfl
   all_goals
    refine qv @uN.eq_1 ?_
   all_goals
    exact Ex
theorem UN (x0 x1 x2:Int):q9 prog G0 145 #[.pointer (some ⟨100,0,none⟩)] (pv1 x0 x1 x2) [100,108] (xsV 3 (vf x0 x1 x2)):=(r7 x0 x1 x2).g
def KO (x0 x1 x2 y0 y1 y2:Int):List (Nat×Blk):=[(100,⟨#[.slice (some ⟨108,0,none⟩) 2 2],.ty 167⟩),(108,⟨#[.int .i64 x0,.int .i64 x1,.int .i64 x2,.int .i64 y0,.int .i64 y1,.int .i64 y2],.ty 70⟩)]
abbrev pv2 (x0 x1 x2 y0 y1 y2:Int):Hp:=hpL G0 (KO x0 x1 x2 y0 y1 y2)
theorem P9 (x0 x1 x2 y0 y1 y2:Int):IterK prog G0 145 #[.pointer (some ⟨100,0,none⟩)] (pv2 x0 x1 x2 y0 y1 y2) [100,108] (xsV 6 (vf2 x0 x1 x2 y0 y1 y2)):=by
 have hL:LOk (KO x0 x1 x2 y0 y1 y2) 200:=⟨by simp [KO],by simp [KO,ak],by simp [KO,aM,aI,aP,ak]⟩
 have dp:∀ k,dom (hpL G0 (KO x0 x1 x2 y0 y1 y2)) k->k<200:=λk hk=>bu λh1=>hk (hL.free G0F zO k zO);refine mZ (m:=KO x0 x1 x2 y0 y1 y2) (B:=200) (v:=.tuple #[]) G0F func145 rfl call145 hL ?_ (by simp [ntmps145]) zO ?_
 ·simp [aL,cQ,aI,aP,KO,ak]
 ·intro C l stop hC bA hY;have aH:xsV 6 (vf2 x0 x1 x2 y0 y1 y2)=[#[.int .i64 0,.int .i64 x0],#[.int .i64 1,.int .i64 x1],#[.int .i64 2,.int .i64 x2],#[.int .i64 0,.int .i64 y0],#[.int .i64 1,.int .i64 y1],#[.int .i64 2,.int .i64 y2]]:=rfl;rw [aH] at hY |-;by_cases h6:6<=stop
  ·have q0:(0 != stop)=true:=by simp;omega
   have q1:(1 != stop)=true:=aB;have q2:(2 != stop)=true:=aB;have q3:(3 != stop)=true:=aB;have q4:(4 != stop)=true:=aB;have q5:(5 != stop)=true:=aB;have l1:1<=stop:=zO;have l2:2<=stop:=zO;have l3:3<=stop:=zO;have l4:4<=stop:=zO;have l5:5<=stop:=zO;refine qv (k13 @KO.eq_1 q0 q1 q2 q3 q4 q5 l1 l2 l3 l4 l5 h6) ?_;exact F3
  ·have:stop=0\/stop=1\/stop=2\/stop=3\/stop=4\/stop=5:=zO;rcases this with rfl|rfl|rfl|rfl|rfl|rfl
   all_goals
    refine qv @KO.eq_1 ?_
   all_goals
    exact Ex
theorem ee {p:Prop} (h:p:=by rw [bm zO zO];rfl):p:=h
theorem QW {p:Prop} (h:p:=by
 simp [aL,cQ,aI,aP,dom,hs]):p:=h
abbrev vU := @List.range_succ
abbrev lh := @Int.neg_mul_neg

def adP (A B:Int) (i:Nat):GS :=
 ⟨tsL [(2,.pointer (some ⟨200,0,none⟩)),(3,.pointer (some ⟨208,0,none⟩)),(4,.pointer (some ⟨216,0,none⟩)),(5,.pointer (some ⟨224,0,none⟩)),(6,.int .i64 i)],
 hpL G0 [(200,⟨fa 8 .u64 (di A),.ty 96⟩),(208,⟨fa 8 .u64 (di B),.ty 96⟩),(216,⟨fa 16 .u64 λ_=>0,.ty 149⟩),(224,⟨fa 16 .u64 (di (jP A B i)),.ty 149⟩)],300,0⟩
def UJ (A B:Int) (i k:Nat):GS :=
 ⟨tsL [(2,.pointer (some ⟨200,0,none⟩)),(3,.pointer (some ⟨208,0,none⟩)),(4,.pointer (some ⟨216,0,none⟩)),(5,.pointer (some ⟨224,0,none⟩)),(6,.int .i64 i),(7,.int .u64 (ue A B i k)),(8,.int .i64 k)],
 hpL G0 [(200,⟨fa 8 .u64 (di A),.ty 96⟩),(208,⟨fa 8 .u64 (di B),.ty 96⟩),(216,⟨fa 16 .u64 λ_=>0,.ty 149⟩),(224,⟨fa 16 .u64 (Cf A B i k),.ty 149⟩)],300,0⟩
theorem bm {x:Int} (h0:-9223372036854775808<=x) (h1:x<9223372036854775808):Int.bmod x 18446744073709551616=x:=by
 rw [fe];split<;>omega
theorem UK (A B:Int) (h0:0<=B) (h1:B<2^(32*8)):Ret prog G0 114 #[dg A,dg B] (.agg (fa 16 .u64 (di (jP A B 8)))):=by
 refine aU G0F func114 rfl call114 zS zS (by simp [ntmps114]) ?_;intro C hC bA hY
 repeat' first|refine cT ?_|refine cH ?_|refine gwC ?_ ?_<;>intro hb
 refine fD 8 (adP A B) ?_ ?_ ?_
 ·refine cB _ 300 hC G0F (m0:=[]) bA zO ?_ ?_ ?_
  ·exact lO
  ·simp [Blk.ids,aI,aP,HP,aqa,jP,rM]
  ·simp
 ·intro i hi;have cS:(i:Int)<8:=zO;have hz:(0:Int)<=i:=zO;have hs:Int.bmod ((i:Int)+1) 18446744073709551616=((i+1:Nat):Int):=ee;unfold adP
  repeat' first|refine cT ?_|(refine iy ?_;intro Q hQ _;simp [hC,hY,hi,cS,hz,hs,mw];refine dq hQ ?_)|refine gwC ?_ ?_<;>intro hb
  ·-- this digit is 0: nothing comes
   have hd:di A i=0:=by simpa using hb
   refine cB _ 300 hC G0F (m0:=[]) bA zO ?_ ?_ ?_
   ·exact QW
   ·have e:fa 16 .u64 (di (jP A B (i+1)))=fa 16 .u64 (di (jP A B i)):=by rw [zg,hd];simp
    simp [e,lv]
   ·simp
  ·refine fD 8 (UJ A B i) ?_ ?_ ?_
   ·refine cB _ 300 hC G0F (m0:=[]) bA zO ?_ ?_ ?_
    ·simp [aL,cQ,aI,aP,dom,X3]
    ·have e:fa 16 .u64 (Cf A B i 0)=fa 16 .u64 (di (jP A B i)):=nW λj _=>by unfold Cf;rw [ae zO]
     simp [e,lv]
    ·simp
   ·intro k hk;have jR:(k:Int)<8:=zO;have R3:(0:Int)<=k:=zO;have nU:Int.bmod ((k:Int)+1) 18446744073709551616=((k+1:Nat):Int):=ee;have RZ:Int.bmod ((i:Int)+k) 18446744073709551616=((i+k:Nat):Int):=ee;have alh:i+k<16:=zO;have ali:(i:Int)+k<16:=zO;have alj:(0:Int)<=(i:Int)+k:=zO;have alk:((i:Int)+k).toNat=i+k:=zO;have alm:(i:Int)+k<=15:=zO;have aln:i+k<=15:=zO;unfold UJ
    repeat' first|refine cT ?_|(refine iy ?_;intro Q hQ _;simp [hC,hY,hi,cS,hz,hk,jR,R3,RZ,alh,ali,alj,alk,alm,aln,nU,qJ];refine dq hQ ?_)|refine gwC ?_ ?_<;>intro hb
    refine cB _ 300 hC G0F (m0:=[]) bA zO ?_ ?_ ?_
    ·simp [aL,cQ,aI,aP,dom,nU,ayx]
    ·have e:fa 16 .u64 (upd (Cf A B i k) (i+k) (di (jP A B (i+1)) (i+k)))=fa 16 .u64 (Cf A B i (k+1)):=nW λj _=>X9 A B i k j;simp [lv,ayz,e]
    ·simp
   ·have hi8:Int.bmod ((i:Int)+8) 18446744073709551616=(i:Int)+8:=bm zO zO;have hi9:(0:Int)<=(i:Int)+8:=zO;have abg:((i:Int)+8).toNat=i+8:=zO;have abh:(i:Int)+8<16:=zO;have abi:(i:Int)<=7:=zO;have abk:i<=7:=zO;have abj:i+8<16:=zO;unfold UJ
    repeat' first|refine cT ?_|(refine iy ?_;intro Q hQ _;simp [hC,hY,hi,cS,hz,hs,hi8,hi9,abg,abh,abi,abj,abk,qJ];refine dq hQ ?_)|refine gwC ?_ ?_<;>intro hb
    refine cB _ 300 hC G0F (m0:=[]) bA zO ?_ ?_ ?_
    ·exact QW
    ·have e:fa 16 .u64 (upd (Cf A B i 8) (i+8) (ue A B i 8))=fa 16 .u64 (di (jP A B (i+1))):=nW λj _=>adb A B i h0 h1 j;simp [lv,e]
    ·simp
 ·unfold adP
  repeat' first|refine cT ?_|refine cH ?_|refine gwC ?_ ?_<;>intro hb
  exact eR results114
def um (z:Int):Int:=if sz z<0 then -sz z else sz z
theorem ate (z:Int):-57896044618658097711785492504343953926634992332820282019728792003956564819968<=sz z/\sz z<57896044618658097711785492504343953926634992332820282019728792003956564819968:=by
 unfold sz;rw [fe];constructor<;>split<;>omega
theorem LR (z:Int):0<=um z/\um z<=57896044618658097711785492504343953926634992332820282019728792003956564819968:=by
 have:=ate z;unfold um;split<;>omega
theorem aae (z y:Int) (k:Nat) (h:z%115792089237316195423570985008687907853269984665640564039457584007913129639936=y%115792089237316195423570985008687907853269984665640564039457584007913129639936) (hk:k<8):di z k=di y k:=by
 have:k=0\/k=1\/k=2\/k=3\/k=4\/k=5\/k=6\/k=7:=zO;rcases this with rfl|rfl|rfl|rfl|rfl|rfl|rfl|rfl<;>simp only [di]<;>omega
theorem Kd (z:Int):sz z%115792089237316195423570985008687907853269984665640564039457584007913129639936=z%115792089237316195423570985008687907853269984665640564039457584007913129639936:=by
 unfold sz;rw [fe];split<;>omega
theorem ay7 (z:Int) (h:ng z=true) (k:Nat) (hk:k<8):di (-z) k=di (um z) k:=aae _ _ _ (by
 rw [mq] at h;simp at h;have:=Kd z;unfold um;rw [ag h];omega) hk
theorem ay6 (z:Int) (h:ng z=false) (k:Nat) (hk:k<8):di z k=di (um z) k:=aae _ _ _ (by
 rw [mq] at h;simp at h;have:=Kd z;unfold um;rw [ae zO];omega) hk
theorem YH (z:Int):Ret prog G0 115 #[wd z] (dg (um z)):=by
 refine aU G0F func115 rfl call115 zS zS (by simp [ntmps115]) ?_;intro C hC bA hY
 repeat' first|refine cT ?_|refine cH ?_|refine gwC ?_ ?_<;>intro hb
 ·refine ⟨.inr trivial,?_⟩;simp [results115,ay7 z hb]
 ·refine ⟨.inr trivial,?_⟩;simp [results115,ay6 z hb]
@[simp] theorem aBh (z:Int) (K:fQ):bl prog G0 115 #[Value.agg #[.int .u64 (wi (z) 0),.int .u64 (wi (z) 1),.int .u64 (wi (z) 2),.int .u64 (wi (z) 3)]] K↔K (dg (um z)):=ar G0W ah (YH z)
@[simp] theorem ayU (a b:Int) (K:fQ):bl prog G0 114 #[Value.agg #[.int .u64 (di (um a) 0),.int .u64 (di (um a) 1),.int .u64 (di (um a) 2),.int .u64 (di (um a) 3),.int .u64 (di (um a) 4),.int .u64 (di (um a) 5),.int .u64 (di (um a) 6),.int .u64 (di (um a) 7)],Value.agg #[.int .u64 (di (um b) 0),.int .u64 (di (um b) 1),.int .u64 (di (um b) 2),.int .u64 (di (um b) 3),.int .u64 (di (um b) 4),.int .u64 (di (um b) 5),.int .u64 (di (um b) 6),.int .u64 (di (um b) 7)]] K↔K (.agg (fa 16 .u64 (di (um a*um b)))):=by
 have h1:=LR a;have h2:=LR b;have e:jP (um a) (um b) 8=um a*um b:=by unfold jP;rw [bP zO zO]
 rw [<-e];exact ar G0W ah (UK (um a) (um b) zO zO)

def hiB (D:Int) (i:Nat):Bool:=(List.range i).any λj=>decide (0<di D (8+j))
theorem abm (D:Int) (i:Nat):hiB D (i+1)=(hiB D i||decide (0<di D (8+i))):=by unfold hiB;rw [vU,List.any_append];simp
def Ls (a b:Int) (D:Int) (i:Nat):GS :=
 ⟨tsL [(2,.pointer (some ⟨200,0,none⟩)),(3,.pointer (some ⟨208,0,none⟩)),(4,.pointer (some ⟨216,0,none⟩)),(6,.pointer (some ⟨272,0,none⟩)),(7,.pointer (some ⟨288,0,none⟩)),(8,.bool (hiB D i)),(9,.int .i64 i)],
 hpL G0 [(200,⟨#[.int .u64 (wi a 0),.int .u64 (wi a 1),.int .u64 (wi a 2),.int .u64 (wi a 3)],.ty 30⟩),(208,⟨#[.int .u64 (wi b 0),.int .u64 (wi b 1),.int .u64 (wi b 2),.int .u64 (wi b 3)],.ty 30⟩),(216,⟨#[.int .u64 0,.int .u64 0,.int .u64 0,.int .u64 0],.ty 30⟩),
  (272,⟨fa 16 .u64 (di D),.ty 149⟩),(288,⟨fa 8 .u64 λj=>if j<i then di D j else 0,.ty 96⟩)],300,0⟩
def tA (a b:Int):Bool:=decide (¬(-57896044618658097711785492504343953926634992332820282019728792003956564819968<=sz a*sz b/\sz a*sz b<57896044618658097711785492504343953926634992332820282019728792003956564819968))
theorem UQ (D:Int) (h:sz D=0):wi D 0=0/\wi D 1=0/\wi D 2=0/\wi D 3=0:=by
 have h1:=Kd D;rw [h] at h1;simp only [wi];refine ⟨?_,?_,?_,?_⟩<;>omega
theorem Wy (D:Int) (h:sz D=0):(!wi D 0==0||(!wi D 1==0||(!wi D 2==0||!wi D 3==0)))=false:=by
 obtain ⟨w0,w1,w2,w3⟩:=UQ D h;simp [w0,w1,w2,w3]
theorem Kj (D:Int) (h:¬sz D=0):(!wi D 0==0||(!wi D 1==0||(!wi D 2==0||!wi D 3==0)))=true:=by
 have:=wne D 0;simp at this;rw [this];have e:sz 0=0:=zD;simp [e,h]
theorem aaf (D:Int) (j:Nat):di D (8+j)=di (D / 115792089237316195423570985008687907853269984665640564039457584007913129639936) j:=by
 unfold di;rw [iN,cx,<-jr (bW (dM 8))]
 rfl
theorem ale (D:Int) (h0:0<=D) (h1:D<115792089237316195423570985008687907853269984665640564039457584007913129639936*115792089237316195423570985008687907853269984665640564039457584007913129639936):hiB D 8=decide (115792089237316195423570985008687907853269984665640564039457584007913129639936<=D):=by
 have e:hiB D 8=decide (0<di (D / 115792089237316195423570985008687907853269984665640564039457584007913129639936) 0\/0<di (D / 115792089237316195423570985008687907853269984665640564039457584007913129639936) 1\/0<di (D / 115792089237316195423570985008687907853269984665640564039457584007913129639936) 2\/0<di (D / 115792089237316195423570985008687907853269984665640564039457584007913129639936) 3\/0<di (D / 115792089237316195423570985008687907853269984665640564039457584007913129639936) 4\/0<di (D / 115792089237316195423570985008687907853269984665640564039457584007913129639936) 5\/0<di (D / 115792089237316195423570985008687907853269984665640564039457584007913129639936) 6\/0<di (D / 115792089237316195423570985008687907853269984665640564039457584007913129639936) 7):=by
  simp only [hiB,List.range,List.range.loop,List.any_cons,List.any_nil,Bool.or_false,aaf,Bool.decide_or]
 rw [e];congr 1;have hE:0<=D / 115792089237316195423570985008687907853269984665640564039457584007913129639936/\D / 115792089237316195423570985008687907853269984665640564039457584007913129639936<115792089237316195423570985008687907853269984665640564039457584007913129639936:=⟨zO,zO⟩
 have hD:115792089237316195423570985008687907853269984665640564039457584007913129639936<=D↔D / 115792089237316195423570985008687907853269984665640564039457584007913129639936≠0:=zO;rw [hD];generalize D / 115792089237316195423570985008687907853269984665640564039457584007913129639936=E at *
 simp only [di];refine propext ⟨λh=>?_,λh=>?_⟩
 ·rcases h with h|h|h|h|h|h|h|h<;>omega
 ·omega
theorem LD (a b:Int) (h:(ng a==ng b)=true):sz a*sz b=um a*um b:=by
 rw [mq,mq] at h;simp at h;unfold um;by_cases h1:sz a<0
 ·rw [ag h1,ag (h.1 h1),lh]
 ·rw [ae h1,ae (λh2=>h1 (h.2 h2))]
theorem JP (a b:Int) (h:(ng a==ng b)=false):sz a*sz b=-(um a*um b):=by
 rw [mq,mq] at h;simp at h;unfold um;by_cases h1:sz a<0
 ·rw [ag h1,ae (λh2=>h ⟨λ_=>h2,λ_=>h1⟩),Int.neg_mul,Int.neg_neg]
 ·have h2:sz b<0:=bu λh2=>h ⟨λh3=>absurd h3 h1,λh3=>absurd h3 h2⟩;rw [ae h1,ag h2,jo,Int.neg_neg]
theorem ui (D:Int) (h0:0<=D) (h1:¬115792089237316195423570985008687907853269984665640564039457584007913129639936<=D):sz D=if 57896044618658097711785492504343953926634992332820282019728792003956564819968<=D then D - 115792089237316195423570985008687907853269984665640564039457584007913129639936 else D:=by
 unfold sz;rw [fe];split<;>split<;>omega
theorem Wr (D:Int) (h0:0<=D) (h1:¬115792089237316195423570985008687907853269984665640564039457584007913129639936<=D):sz (-D)=if 57896044618658097711785492504343953926634992332820282019728792003956564819968<D then 115792089237316195423570985008687907853269984665640564039457584007913129639936 - D else -D:=by
 unfold sz;rw [fe];split<;>split<;>omega
theorem acr (a b:Int):Ret prog G0 89 #[wd a,wd b] (.tuple #[wd (sz a*sz b),.bool (tA a b)]):=by
 refine aU G0F func89 rfl call89 zS zS (by simp [ntmps89]) ?_;intro C hC bA hY
 repeat' first|refine cT ?_|refine cH ?_|refine gwC ?_ ?_<;>intro hb
 generalize hD:um a*um b=D;refine fD 8 (Ls a b D) ?_ ?_ ?_
 ·refine cB _ 300 hC G0F (m0:=[]) bA zO ?_ ?_ ?_
  ·simp [aL,cQ,aI,aP,dom,hiB]
  ·simp [aM,lv,aI,aP];exact (HP .u64 λ_=>0).symm
  ·simp
 ·intro i hi;have cS:(i:Int)<8:=zO;have hz:(0:Int)<=i:=zO;have hs:Int.bmod ((i:Int)+1) 18446744073709551616=((i+1:Nat):Int):=ee;have hi8:Int.bmod (8+(i:Int)) 18446744073709551616=8+(i:Int):=bm zO zO;have hi9:(0:Int)<=8+(i:Int):=zO;have abg:(8+(i:Int)).toNat=8+i:=zO;have abh:8+(i:Int)<16:=zO;have abi:(i:Int)<=7:=zO;have abj:8+i<16:=zO;have abk:i<=7:=zO;have hj1:(i:Int)<16:=zO;have hj2:i<16:=zO;cases hq:hiB D i
  all_goals
   unfold Ls
   repeat' first|refine cT ?_|(refine iy ?_;intro Q hQ _;simp [hC,hY,hq,hi,cS,hz,hs,hi8,hi9,abg,abh,abi,abj,abk,hj1,hj2,qJ];refine dq hQ ?_)|refine gwC ?_ ?_<;>intro hb
  all_goals
   refine cB _ 300 hC G0F (m0:=[]) bA zO ?_ ?_ ?_
   ·simp [aL,cQ,aI,aP,dom,hs,abm,hq]
   ·have e:fa 8 .u64 (upd (λj=>if j<i then di D j else 0) i (di D i))=fa 8 .u64 (λj=>if j<i+1 then di D j else 0):=nW λj _=>by
     unfold upd;by_cases h:j=i
     ·subst h;simp
     ·simp only [h,cw];by_cases h2:j<i
      ·rw [ag h2,ag zO]
      ·rw [ae h2,ae zO]
    simp [aM,lv,aI,aP,e]
   ·simp
 ·have BX:0<=D/\D<=57896044618658097711785492504343953926634992332820282019728792003956564819968*57896044618658097711785492504343953926634992332820282019728792003956564819968:=by
   have h1:=LR a;have h2:=LR b;rw [<-hD];exact ⟨bK h1.1 h2.1,cU h1.2 h2.2 h2.1 zO⟩
  have hh:=ale D BX.1 (by have:=BX.2;omega);have HU:=LD a b;have nU:=JP a b;rw [hD] at HU nU;cases hn:(ng a==ng b)
  ·cases hq:hiB D 8
   ·by_cases hz:sz D=0
    ·have hw:=Wy D hz;unfold Ls
     repeat' first|refine cT ?_|(refine iy ?_;intro Q hQ _;simp [hC,hY,HP,hq,hn,hw];refine dq hQ ?_)|refine gwC ?_ ?_<;>intro hb
     refine ⟨.inr trivial,?_⟩;rw [hh] at hq;simp [results89,nU hn,hw,tA,hq];have:=ui D BX.1 lM;simp at hq;omega
    ·have hw:=Kj D hz;unfold Ls
     repeat' first|refine cT ?_|(refine iy ?_;intro Q hQ _;simp [hC,hY,HP,hq,hn,hw];refine dq hQ ?_)|refine gwC ?_ ?_<;>intro hb
     refine ⟨.inr trivial,?_⟩;rw [hh] at hq;simp [results89,nU hn,hw,tA,hq];rw [g6];simp [mq];have h3:=ui D BX.1 lM;have h4:=Wr D BX.1 lM;simp at hq;omega
   ·unfold Ls
    repeat' first|refine cT ?_|(refine iy ?_;intro Q hQ _;simp [hC,hY,HP,hq,hn];refine dq hQ ?_)|refine gwC ?_ ?_<;>intro hb
    refine ⟨.inr trivial,?_⟩;rw [hh] at hq;simp [results89,nU hn,tA,hq];simp at hq;omega
  ·cases hq:hiB D 8
   all_goals
    unfold Ls
    repeat' first|refine cT ?_|(refine iy ?_;intro Q hQ _;simp [hC,hY,HP,hq,hn];refine dq hQ ?_)|refine gwC ?_ ?_<;>intro hb
   ·refine ⟨.inr trivial,?_⟩;rw [hh] at hq;simp [results89,HU hn,tA,hq];rw [g6];simp [mq];have h3:=ui D BX.1 lM;simp at hq;omega
   ·refine ⟨.inr trivial,?_⟩;rw [hh] at hq;simp [results89,HU hn,tA,hq];simp at hq;omega
@[simp] theorem aEn (a b:Int) (K:fQ):bl prog G0 89 #[Value.agg #[.int .u64 (wi (a) 0),.int .u64 (wi (a) 1),.int .u64 (wi (a) 2),.int .u64 (wi (a) 3)],Value.agg #[.int .u64 (wi (b) 0),.int .u64 (wi (b) 1),.int .u64 (wi (b) 2),.int .u64 (wi (b) 3)]] K↔K (.tuple #[wd (sz a*sz b),.bool (tA a b)]):=ar G0W ah (acr a b)
theorem xx {p:Prop} (h:p:=by rw [e0];exact qt _):p:=h
theorem xw {p:Prop} (h:p:=by rw [e0];exact λx hx=>vz x zO):p:=h
theorem pE {p:Prop} (h:p:=by simp [wb,aM,aI,aP]):p:=h
theorem EY {p:Prop} (h:p:=by
 refine ⟨gb,sH,λq b c h1 h2=>?_⟩;simp at h1 h2;rcases h1 with ⟨e1,rfl⟩|⟨e1,rfl⟩<;>rcases h2 with ⟨e2,rfl⟩|⟨e2,rfl⟩<;>first|rfl|omega):p:=h
theorem QR {p:Prop} (h:p:=by
 rw [ae zO,ae zO]):p:=h
theorem D4 {p:Prop} (h:p:=by
 rw [e0];intro k c hk;rcases dE hk with h|h
 ·simp at h;rcases h with ⟨_,rfl⟩|⟨_,rfl⟩<;>simp [wb,aM,aI,aP]
 ·exact Blk.flat_ids ((G0F k c h).2)):p:=h
theorem Hs {p:Prop} (h:p:=by
 rw [e0];intro x hx;have h1:¬x=100:=zO;have h2:¬x=101:=zO;have h3:100<=x:=zO;simp [wHp,h1,h2,h3]):p:=h
theorem Fi {p:Prop} (h:p:=by
 refine cB _ 300 hC G0F (m0:=[(100,wb a),(101,wb b)]) bA zO ?_ ?_ ?_
 ·exact lO
 ·simp [aM,aI,aP,wb]
 ·simp [wb]):p:=h
abbrev vF := @Nat.min_eq_right
abbrev v5 := @Nat.min_eq_left

theorem ad2 (z:Int):Ret prog G0 104 #[wd z] (.bool (ng z)):=by
 refine aU G0F func104 rfl call104 rfl zS (by simp [ntmps104]) ?_;intro C hC _ hY;refine iI ?_;refine ⟨.inr trivial,?_⟩;have:=dJ z 3;have:=eJ z 3;simp [results104,ng];rw [fe];split<;>omega
@[simp] theorem aFv (z:Int) (K:fQ):bl prog G0 104 #[Value.agg #[.int .u64 (wi (z) 0),.int .u64 (wi (z) 1),.int .u64 (wi (z) 2),.int .u64 (wi (z) 3)]] K↔K (.bool (ng z)):=ar G0W ah (ad2 z)

theorem WY (x y c:Int) (hx:0<=x) (hy:0<=y) (h0:0<=c) (h1:c<=1):aeX prog 128 #[.int .u64 x,.int .u64 y,.int .u64 c] (.tuple #[.int .u64 ((x+y+c)%18446744073709551616),.int .u64 ((x+y+c) / 18446744073709551616)]):=by
 refine ⟨zS,zS,λw=>?_⟩;rw [run_callFunc_extern func128 ah ah ah (e:=add64Entry) ah,run_add64 x y c hx hy h0 h1];simp only [Result.andThen]
@[simp] theorem azr (x y c:Int) (hx:0<=x) (hy:0<=y) (h0:0<=c) (h1:c<=1) (K:fQ):bl prog G0 128 #[.int .u64 x,.int .u64 y,.int .u64 c] K↔K (.tuple #[.int .u64 ((x+y+c)%18446744073709551616),.int .u64 ((x+y+c) / 18446744073709551616)]):=SU (WY x y c hx hy h0 h1)

def wb (z:Int):Blk:=⟨#[.int .u64 (wi z 0),.int .u64 (wi z 1),.int .u64 (wi z 2),.int .u64 (wi z 3)],.ty 30⟩
theorem YX (a b:Int) (k:Nat) (nZ:100<=k):Fun prog G0 129 #[wd a,wd b] G0 [] (.new (.func (.func 146) #[] #[.pointer (some ⟨k,0,none⟩),.pointer (some ⟨k+1,0,none⟩)]) [(k,wb a),(k+1,wb b)]):=by
 have e0:rst G0 []=G0:=zX G0F [];refine Nc (B:=200) (λj=>if j=k then 200 else if j=k+1 then 208 else j) G0F (λ_ _=>rfl) func129 rfl call129 ga xx ?_ (by simp [ntmps129]) zO xw (λj hj=>?_) ?_ ?_ ?_ ?_
 ·exact EY
 ·rw [e0] at hj;have:=BG hj;rw [ae zO,ae zO]
 ·simp [e0,dom]
 ·simp
 ·exact pE
 ·intro C hC bA hY;rw [e0];refine iI ?_;refine ⟨.inr trivial,?_⟩;simp [results129,ren,aW,aw,aF,wb];intro j hj;have:=BG hj;exact QR
def oU (a b:Int):List (Array Value):=[#[.int .u64 (wi a 0),.int .u64 (wi b 0)],#[.int .u64 (wi a 1),.int .u64 (wi b 1)],#[.int .u64 (wi a 2),.int .u64 (wi b 2)],#[.int .u64 (wi a 3),.int .u64 (wi b 3)]]

def wHp (a b:Int):Hp:=hpL G0 [(100,wb a),(101,wb b)]
def Il (a b:Int) (l i:Nat):GS :=
 ⟨tsL [(0,.func (.yield l) #[] #[]),(1,.pointer (some ⟨100,0,none⟩)),(2,.pointer (some ⟨101,0,none⟩)),(5,.int .i64 i)],wHp a b,300,i⟩
theorem ad6 (a b:Int):q9 prog G0 146 #[.pointer (some ⟨100,0,none⟩),.pointer (some ⟨101,0,none⟩)] (wHp a b) [100,101] (oU a b):=by
 have e0:rst (wHp a b) [100,101]=wHp a b:=qi G0F zS;refine MW (B:=200) (v:=.tuple #[]) G0F (λk hk=>dA zS hk) func146 rfl call146 ?_ ?_ (by simp [ntmps146]) zO ?_ ?_
 ·rw [e0];simp [aL,cQ,aI,aP,dom,wHp]
 ·exact D4
 ·exact Hs
 ·intro C l stop hC bA hY;rw [e0] at bA |-;refine cA (k2 @wHp.eq_1 @wb.eq_1) ?_;refine fD (min stop 4) (Il a b l) ?_ ?_ ?_
  ·exact Fi
  ·intro i hi;have hs:i<stop:=zO;have hq:(i != stop)=true:=aB;have hle:i<=stop:=zO;have:i=0\/i=1\/i=2\/i=3:=zO;rcases this with rfl|rfl|rfl|rfl<;>unfold Il wHp
   all_goals
    refine cA (k4 @oU.eq_1 hq hle @wb.eq_1) ?_
   all_goals
    exact Fi
  ·by_cases h4:4<=stop
   ·rw [vF h4];unfold Il wHp;refine cA (k2 @oU.eq_1 @wb.eq_1) ?_;refine ⟨.inl trivial,?_⟩;simp [results146,oU];omega
   ·rw [v5 zO];have:stop=0\/stop=1\/stop=2\/stop=3:=zO;rcases this with rfl|rfl|rfl|rfl<;>unfold Il wHp
    all_goals
     refine cA (k2 @oU.eq_1 @wb.eq_1) ?_
    all_goals
     exact eR (k2 results146 @oU.eq_1)
theorem kh {p:Prop} (h:p:=by simp [aF]):p:=h

theorem ade (i:Nat):(2:Int)^(64*i)=2^(32*(2*i)):=by congr 1;omega
theorem ah3 (a b c:Int) (i:Nat):(wi a i+wi b i+car a b c (2*i))%18446744073709551616=wi (a+b+c) i:=by
 unfold wi car;rw [ade,IW a b c _ (dM (2*i))];omega
theorem ah5 (a b c:Int) (i:Nat):(wi a i+wi b i+car a b c (2*i)) / 18446744073709551616=car a b c (2*(i+1)):=by
 unfold wi car
 have e:(2:Int)^(32*(2*(i+1)))=2^(32*(2*i))*18446744073709551616:=by
  rw [show 32*(2*(i+1))=32*(2*i)+64 by omega,cx];rfl
 rw [ade,e,mh a _ _ (dM (2*i)) zO,mh b _ _ (dM (2*i)) zO];generalize hM:(2:Int)^(32*(2*i))=M;have hp:0<M:=hM▸dM (2*i);have e:a%M+M*(a / M%18446744073709551616)+(b%M+M*(b / M%18446744073709551616))+c=(a%M+b%M+c)+M*(a / M%18446744073709551616+b / M%18446744073709551616):=sx;rw [e,<-jr (bW hp),g7 _ _ zO];congr 1;omega

theorem q9.cast {P:Program} {G:Hp} {f:FuncId} {bF u7:ca} {hp:Hp} {rs PN:List Nat} {xs:List (Array Value)} (h:q9 P G f bF hp rs xs) (e1:bF=u7) (e2:rs=PN):q9 P G f u7 hp PN xs:=by subst e1 e2;exact h

theorem Bs {D:iH} {l:List (Nat×Value)} (h:∀ p∈l,aL D p.2) (t:Nat):aL D (tsL l t):=by
 rcases od (l:=l) (t:=t) with e|e
 ·rw [e];simp [fP,aL,cQ,aI,aP]
 ·exact h _ e
def ac7 (a b c:Int) (i:Nat):Hp:=hpL G0 [(200,wb a),(208,wb b),(216,⟨#[.int .u64 (car a b c (2*i))],.ty 28⟩),
 (224,⟨#[.int .u64 (if 0<i then wi (a+b+c) 0 else 0),.int .u64 (if 1<i then wi (a+b+c) 1 else 0),.int .u64 (if 2<i then wi (a+b+c) 2 else 0),.int .u64 (if 3<i then wi (a+b+c) 3 else 0)],.ty 30⟩),
 (232,⟨#[.int .i64 i],.ty 3⟩)]
def ahl:Nat->Value:=tsL [(3,.pointer (some ⟨200,0,none⟩)),(4,.pointer (some ⟨208,0,none⟩)),(5,.pointer (some ⟨216,0,none⟩)),(6,.pointer (some ⟨224,0,none⟩)),(7,.pointer (some ⟨232,0,none⟩))]
theorem YY (a b c:Int) (h0:0<=c) (h1:c<=1):Ret prog G0 102 #[wd a,wd b,.int .u64 c] (wd (a+b+c)):=by
 refine aU G0F func102 rfl call102 zS zS (by simp [ntmps102]) ?_;intro C hC bA hY;refine iI ?_;refine kN [129] ah ?_;intro Q hQ hP;simp [hC,hY];refine iE (YX a b 264 zO) zS (λ_ _=>rfl) (by simp [Res.at]) ?_;simp;refine hQ _ _ _ _ ?_;clear hQ hP Q;refine iI ?_;refine Ay (f:=146) (rs:=[264,265]) (xs:=oU a b) (bF:=#[.pointer (some ⟨264,0,none⟩),.pointer (some ⟨265,0,none⟩)]) zS ?_ (by simp [oU]) (by simp [ntmps102]) ahl (ac7 a b c) 300 4 (by simp [oU]) ?_ ?_ ?_ ?_ ?_
 ·rw [hC];refine q9.cast (IterX.rn (λk=>if k=100 then 264 else if k=101 then 265 else k) G0F (λk hk=>dA zS hk) (rs:=[100,101]) ?_ (ad6 a b)) kh zS;refine ⟨λk hk=>?_,?_,?_,?_⟩
  ·have h1:¬k=100:=zO;have h2:¬k=101:=zO;have h3:¬k=200:=zO;have h4:¬k=208:=zO;have h5:¬k=216:=zO;have h6:¬k=224:=zO;have h7:¬k=232:=zO;have h8:¬k=264:=zO;have h9:¬k=265:=zO;simp [h1,h2,h3,h4,h5,h6,h7,h8,h9,wHp]
  ·simp
  ·simp [wHp,wb,Blk.rn,aw,aF]
  ·simp
 ·refine cB _ 300 hC G0F (m0:=[]) bA zO ?_ ?_ ?_
  ·exact lO
  ·simp [aM,aI,aP,wb,NZ]
  ·simp
 ·simp [ac7,dom]
 ·intro i hi t;refine Bs ?_ t;simp [aL,cQ,aI,aP,dom,ac7]
 ·intro i x hi hx C1 l Km MJ Kq;have Ko:=hC;have wy:C1.G=G0:=Km.trans hC;have c0:=λk=>(Mq a b c h0 h1 k).1;have c1:=λk=>(Mq a b c h0 h1 k).2;have A0:(wi a 0+wi b 0+car a b c 0)%18446744073709551616=wi (a+b+c) 0:=ah3 a b c 0;have A1:(wi a 1+wi b 1+car a b c 2)%18446744073709551616=wi (a+b+c) 1:=ah3 a b c 1;have A2:(wi a 2+wi b 2+car a b c 4)%18446744073709551616=wi (a+b+c) 2:=ah3 a b c 2;have A3:(wi a 3+wi b 3+car a b c 6)%18446744073709551616=wi (a+b+c) 3:=ah3 a b c 3;have B0:(wi a 0+wi b 0+car a b c 0) / 18446744073709551616=car a b c 2:=ah5 a b c 0;have B1:(wi a 1+wi b 1+car a b c 2) / 18446744073709551616=car a b c 4:=ah5 a b c 1;have B2:(wi a 2+wi b 2+car a b c 4) / 18446744073709551616=car a b c 6:=ah5 a b c 2;have B3:(wi a 3+wi b 3+car a b c 6) / 18446744073709551616=car a b c 8:=ah5 a b c 3;replace hC:=wy;replace hY:=Kq;have:i=0\/i=1\/i=2\/i=3:=zO;rcases this with rfl|rfl|rfl|rfl
  all_goals
   simp [oU] at hx;subst hx;unfold ac7
  all_goals
   refine cA (k2 @bG.eq_1 @ahl.eq_1) ?_
  all_goals
   intro C2 tP Jd tQ;replace hC:C2.G=G0:=tP.trans Ko;replace hY:=tQ;refine cA (k13 @bG.eq_1 @ahl.eq_1 c0 c1 @dJ A0 A1 A2 A3 B0 B1 B2 B3) ?_
  all_goals
   refine cB [] 300 wy G0F MJ zO ?_ ?_ ?_
   ·simp
   ·simp [aM,aI,aP,wb]
   ·simp [wb]
 ·left
  refine ⟨rfl,?_⟩;unfold ac7 ahl;refine iI ?_;exact eR results102
@[simp] theorem aBP (a b c:Int) (h0:0<=c) (h1:c<=1) (K:fQ):bl prog G0 102 #[Value.agg #[.int .u64 (wi (a) 0),.int .u64 (wi (a) 1),.int .u64 (wi (a) 2),.int .u64 (wi (a) 3)],Value.agg #[.int .u64 (wi (b) 0),.int .u64 (wi (b) 1),.int .u64 (wi (b) 2),.int .u64 (wi (b) 3)],.int .u64 c] K↔K (wd (a+b+c)):=ar G0W ah (YY a b c h0 h1)
abbrev oX := @BitVec.toNat_ofInt

theorem adW (a b:Int):Ret prog G0 124 #[wd a,wd b] (.tuple #[wd (a+b),.bool (ng a==ng b&&ng (a+b) != ng a)]):=by
 refine aU G0F func124 rfl call124 zS zS (by simp [ntmps124]) ?_;intro C hC bA hY;cases hq:(ng a==ng b)
 all_goals
  repeat' first|refine cT ?_|(refine iy ?_;intro Q hQ _;simp [hC,hY,hq];refine dq hQ ?_)|refine gwC ?_ ?_<;>intro hb
  exact eR (k2 results124 hq)
@[simp] theorem aFn (a b:Int) (K:fQ):bl prog G0 124 #[Value.agg #[.int .u64 (wi (a) 0),.int .u64 (wi (a) 1),.int .u64 (wi (a) 2),.int .u64 (wi (a) 3)],Value.agg #[.int .u64 (wi (b) 0),.int .u64 (wi (b) 1),.int .u64 (wi (b) 2),.int .u64 (wi (b) 3)]] K↔K (.tuple #[wd (a+b),.bool (ng a==ng b&&ng (a+b) != ng a)]):=ar G0W ah (adW a b)
theorem ah9 (n:Int) (h:i64 n):Ret prog G0 99 #[.int .i64 n] (wd n):=by
 refine aU G0F func99 rfl call99 zS zS (by simp [ntmps99]) ?_;intro C hC bA hY
 repeat' first|refine cT ?_|refine cH ?_|refine gwC ?_ ?_<;>intro hb
 refine ⟨.inr trivial,?_⟩;simp [results99,wi];unfold i64 at h;rw [iO _ zO];by_cases hn:n<0
 ·have e1:n / 9223372036854775808=-1:=zO;have e2:n / 18446744073709551616=-1:=zO;have e3:n / 340282366920938463463374607431768211456=-1:=zO;have e4:n / 6277101735386680763835789423207666416102355444464034512896=-1:=zO;rw [e1,e2,e3,e4];decide
 ·have e1:n / 9223372036854775808=0:=zO;have e2:n / 18446744073709551616=0:=zO;have e3:n / 340282366920938463463374607431768211456=0:=zO;have e4:n / 6277101735386680763835789423207666416102355444464034512896=0:=zO;rw [e1,e2,e3,e4];decide
@[simp] theorem wOf (n:Int) (h:i64 n) (K:fQ):bl prog G0 99 #[.int .i64 n] K↔K (wd n):=ar G0W ah (ah9 n h)
theorem ad9 (x:Int) (h0:0<=x) (h1:x<18446744073709551616):jS .xor .u64 IntKind.u64.max x=18446744073709551615 - x:=by
 have e:BitVec.ofInt 64 IntKind.u64.max=BitVec.allOnes 64:=zD;unfold jS;show IntKind.u64.wrap ((BitVec.ofInt 64 IntKind.u64.max ^^^ BitVec.ofInt 64 x:BitVec 64).toNat:Int)=_;rw [Qm,e,BitVec.allOnes_xor,BitVec.toNat_not]
 have:(BitVec.ofInt 64 x).toNat=x.toNat:=by
  rw [oX];congr 1;exact bP h0 h1
 rw [this];omega
theorem atE (z:Int) (k:Nat):18446744073709551615 - wi z k=wi (-z - 1) k:=by
 unfold wi;generalize hM:(2:Int)^(64*k)=M;have hp:0<M:=by rw [<-hM,ade];exact dM _
 exact F6
theorem ad5 (z:Int):Ret prog G0 103 #[wd z] (wd (-z - 1)):=by
 refine aU G0F func103 rfl call103 zS zS (by simp [ntmps103]) ?_;intro C hC bA hY
 repeat' first|refine cT ?_|refine cH ?_|refine gwC ?_ ?_<;>intro hb
 refine ⟨.inr trivial,?_⟩;have e:(if IntKind.u64.signed=true then (-1:Int) else IntKind.u64.max)=IntKind.u64.max:=rfl;have X:=λk=>ad9 (wi z k) (dJ z k) (eJ z k);simp [results103,e,X,atE]
@[simp] theorem aFr (z:Int) (K:fQ):bl prog G0 103 #[Value.agg #[.int .u64 (wi (z) 0),.int .u64 (wi (z) 1),.int .u64 (wi (z) 2),.int .u64 (wi (z) 3)]] K↔K (wd (-z - 1)):=ar G0W ah (ad5 z)
theorem ad7 (a b:Int):Ret prog G0 69 #[wd a,wd b] (.tuple #[wd (a - b),.bool (ng a != ng b&&ng (a - b) != ng a)]):=by
 refine aU G0F func69 rfl call69 zS zS (by simp [ntmps69]) ?_;intro C hC bA hY;have e:a+(-b - 1)+1=a - b:=zO;cases hq:(ng a != ng b)
 all_goals
  repeat' first|refine cT ?_|(refine iy ?_;intro Q hQ _;simp [hC,hY,hq,e];refine dq hQ ?_)|refine gwC ?_ ?_<;>intro hb
  exact eR (k3 results69 hq e)
@[simp] theorem azi (a b:Int) (K:fQ):bl prog G0 69 #[Value.agg #[.int .u64 (wi (a) 0),.int .u64 (wi (a) 1),.int .u64 (wi (a) 2),.int .u64 (wi (a) 3)],Value.agg #[.int .u64 (wi (b) 0),.int .u64 (wi (b) 1),.int .u64 (wi (b) 2),.int .u64 (wi (b) 3)]] K↔K (.tuple #[wd (a - b),.bool (ng a != ng b&&ng (a - b) != ng a)]):=ar G0W ah (ad7 a b)
theorem ad1 (z:Int):Ret prog G0 76 #[wd z] (.tuple #[.int .i64 (if i64 (sz z) then sz z else 0),.bool (decide (i64 (sz z)))]):=by
 refine aU G0F func76 rfl call76 zS zS (by simp [ntmps76]) ?_;intro C hC bA hY;have h:=NX (wi z 0)
 repeat' first|refine cT ?_|(refine iy ?_;intro Q hQ _;simp [hC,hY,h];refine dq hQ ?_)|refine gwC ?_ ?_<;>intro hb
 all_goals
  refine ⟨.inr trivial,?_⟩
  try rw [wne] at hb
  try rw [weq] at hb
  simp at hb;rw [eq_comm,abV] at hb;simp [results76,hb]
 exact VI z hb
@[simp] theorem aFo (z:Int) (K:fQ):bl prog G0 76 #[Value.agg #[.int .u64 (wi (z) 0),.int .u64 (wi (z) 1),.int .u64 (wi (z) 2),.int .u64 (wi (z) 3)]] K↔K (.tuple #[.int .i64 (if i64 (sz z) then sz z else 0),.bool (decide (i64 (sz z)))]):=ar G0W ah (ad1 z)

theorem agZ:ng 0=false:=zD
@[simp] theorem aBL (a:Int) (K:fQ):bl prog G0 69 #[.agg #[.int .u64 0,.int .u64 0,.int .u64 0,.int .u64 0],Value.agg #[.int .u64 (wi (a) 0),.int .u64 (wi (a) 1),.int .u64 (wi (a) 2),.int .u64 (wi (a) 3)]] K↔K (.tuple #[wd (-a),.bool (ng a&&ng (-a))]):=by
 have:=azi 0 a K
 have e:((false != ng a)&&ng (0 - a) != false)=(ng a&&ng (-a)):=by
  rw [Int.zero_sub];cases ng a<;>cases ng (-a)<;>rfl
 rw [agZ,e,Int.zero_sub] at this;exact Rh
theorem ad4 (a:Int):Ret prog G0 126 #[wd a] (.tuple #[wd (-a),.bool (ng a&&ng (-a))]):=by
 refine aU G0F func126 rfl call126 zS zS (by simp [ntmps126]) ?_;intro C hC bA hY;refine iI ?_;exact eR results126
@[simp] theorem aFq (a:Int) (K:fQ):bl prog G0 126 #[Value.agg #[.int .u64 (wi (a) 0),.int .u64 (wi (a) 1),.int .u64 (wi (a) 2),.int .u64 (wi (a) 3)]] K↔K (.tuple #[wd (-a),.bool (ng a&&ng (-a))]):=ar G0W ah (ad4 a)

theorem acx (x:Int):Ret prog G0 108 #[.int .i64 x] (.bool false):=by
 refine aU G0F func108 rfl call108 rfl zS (by simp [ntmps108]) ?_;intro C hC bA hY;refine iI ?_;exact eR results108
@[simp] theorem aEp (x:Int) (K:fQ):bl prog G0 108 #[.int .i64 x] K↔K (.bool false):=ar G0W ah (acx x)
theorem acy (x:Int):Ret prog G0 109 #[.int .u64 x] (.bool false):=by
 refine aU G0F func109 rfl call109 rfl zS (by simp [ntmps109]) ?_;intro C hC bA hY;refine iI ?_;exact eR results109
@[simp] theorem aEq (x:Int) (K:fQ):bl prog G0 109 #[.int .u64 x] K↔K (.bool false):=ar G0W ah (acy x)
theorem Z3 (x y:Int):Ret prog G0 77 #[.int .i64 x,.int .i64 y] (.int .i64 (dv x y)):=by
 refine aU G0F func77 rfl call77 rfl zS (by simp [ntmps77]) ?_;intro C hC bA hY;by_cases h1:x<y
 ·(repeat' (first|refine cT ?_|(refine iy ?_;intro Q hQ _;simp [hC,hY,h1];refine dq hQ ?_)|refine gwC ?_ ?_<;>intro hb))
  all_goals
   exact eR (k3 results77 @dv.eq_1 h1)
 ·by_cases h2:y<x
  ·have h3:¬x=y:=zO
   (repeat' (first|refine cT ?_|(refine iy ?_;intro Q hQ _;simp [hC,hY,h1,h2];refine dq hQ ?_)|refine gwC ?_ ?_<;>intro hb))
   all_goals
    exact eR (k4 results77 @dv.eq_1 h1 h3)
  ·have h3:x=y:=zO;subst h3
   (repeat' (first|refine cT ?_|(refine iy ?_;intro Q hQ _;simp [hC,hY,h1];refine dq hQ ?_)|refine gwC ?_ ?_<;>intro hb))
   all_goals
    exact eR (k2 results77 @dv.eq_1)
@[simp] theorem aB4 (x y:Int) (K:fQ):bl prog G0 77 #[.int .i64 x,.int .i64 y] K↔K (.int .i64 (dv x y)):=ar G0W ah (Z3 x y)
theorem Z4 (x y:Int):Ret prog G0 78 #[.int .u64 x,.int .u64 y] (.int .i64 (dv x y)):=by
 refine aU G0F func78 rfl call78 rfl zS (by simp [ntmps78]) ?_;intro C hC bA hY;by_cases h1:x<y
 ·(repeat' (first|refine cT ?_|(refine iy ?_;intro Q hQ _;simp [hC,hY,h1];refine dq hQ ?_)|refine gwC ?_ ?_<;>intro hb))
  all_goals
   exact eR (k3 results78 @dv.eq_1 h1)
 ·by_cases h2:y<x
  ·have h3:¬x=y:=zO
   (repeat' (first|refine cT ?_|(refine iy ?_;intro Q hQ _;simp [hC,hY,h1,h2];refine dq hQ ?_)|refine gwC ?_ ?_<;>intro hb))
   all_goals
    exact eR (k4 results78 @dv.eq_1 h1 h3)
  ·have h3:x=y:=zO;subst h3
   (repeat' (first|refine cT ?_|(refine iy ?_;intro Q hQ _;simp [hC,hY,h1];refine dq hQ ?_)|refine gwC ?_ ?_<;>intro hb))
   all_goals
    exact eR (k2 results78 @dv.eq_1)
@[simp] theorem aB5 (x y:Int) (K:fQ):bl prog G0 78 #[.int .u64 x,.int .u64 y] K↔K (.int .i64 (dv x y)):=ar G0W ah (Z4 x y)
theorem sN {p:Prop} (h:p:=by unfold dv;split<;>(try split)<;>omega):p:=h
theorem EH {p:Prop} (h:p:=by
 have:=dJ z 3;have:=eJ z 3;rw [fe];unfold ng;simp only [db];split<;>split<;>omega):p:=h
theorem sZ {p:Prop} (h:p:=by
 subst hk;simp only [nV];exact afl (by first|omega|(simp;omega)) (by first|omega|(simp;omega))):p:=h
theorem Hj {p:Prop} (h:p:=by
 refine cB _ 300 hC G0F (m0:=[]) bA zO ?_ ?_ ?_
 ·simp [aL,cQ,aI,aP,dom,nV]
 ·simp [aM,aI,aP,wb]
 ·simp):p:=h

def nV (a b:Int) (j:Nat):Int:=if j=0 then dv (Int.bmod (wi a 3) 18446744073709551616) (Int.bmod (wi b 3) 18446744073709551616) else dv (wi a (3 - j)) (wi b (3 - j))
def Ny (a b:Int) (j:Nat):GS :=
 ⟨tsL [(2,.pointer (some ⟨200,0,none⟩)),(3,.pointer (some ⟨208,0,none⟩)),(5,.int .i64 (nV a b j)),(6,.int .i64 (2 - j))],hpL G0 [(200,wb a),(208,wb b)],300,0⟩
theorem SZ {x y:Int}:dv x y=0↔x=y:=sN
theorem bm3 (z:Int):Int.bmod (wi z 3) 18446744073709551616=wi z 3 - (if ng z then 18446744073709551616 else 0):=by
 exact EH
theorem ajL (z:Int):∃ r,sz z=Int.bmod (wi z 3) 18446744073709551616*6277101735386680763835789423207666416102355444464034512896+r/\r=wi z 0+18446744073709551616*wi z 1+340282366920938463463374607431768211456*wi z 2/\0<=r/\r<6277101735386680763835789423207666416102355444464034512896:=by
 refine ⟨_,?_,rfl,?_,?_⟩
 ·rw [UF,bm3];split<;>omega
 ·have:=dJ z 0;have:=dJ z 1;have:=dJ z 2;omega
 ·have:=eJ z 0;have:=eJ z 1;have:=eJ z 2;omega
theorem afl {x y u v:Int} (h1:x<y↔u<v) (h2:x=y↔u=v):dv x y=dv u v:=by
 unfold dv;simp only [h1,h2]
theorem afm (a b:Int) (k:Nat) (hk:k=(if nV a b 0=0 then if nV a b 1=0 then if nV a b 2=0 then 3 else 2 else 1 else 0)):nV a b k=dv (sz a) (sz b):=by
 obtain ⟨r,ea,er,r0,r1⟩:=ajL a;obtain ⟨q,eb,eq,q0,q1⟩:=ajL b;have z0:nV a b 0=0↔Int.bmod (wi a 3) 18446744073709551616=Int.bmod (wi b 3) 18446744073709551616:=by simp only [nV,aV,SZ]
 have z1:nV a b 1=0↔wi a 2=wi b 2:=by simp [nV,SZ]
 have z2:nV a b 2=0↔wi a 1=wi b 1:=by simp [nV,SZ]
 simp only [z0,z1,z2] at hk;have:=dJ a 0;have:=eJ a 0;have:=dJ a 1;have:=eJ a 1;have:=dJ a 2;have:=eJ a 2;have:=dJ b 0;have:=eJ b 0;have:=dJ b 1;have:=eJ b 1;have:=dJ b 2;have:=eJ b 2;clear z0 z1 z2;by_cases h0:Int.bmod (wi a 3) 18446744073709551616=Int.bmod (wi b 3) 18446744073709551616
 ·rw [ag h0] at hk;rw [h0] at ea;by_cases h1:wi a 2=wi b 2
  ·rw [ag h1] at hk;by_cases h2:wi a 1=wi b 1
   ·rw [ag h2] at hk;exact sZ
   ·rw [ae h2] at hk;exact sZ
  ·rw [ae h1] at hk;exact sZ
 ·rw [ae h0] at hk;exact sZ
theorem adX (a b:Int):Ret prog G0 45 #[wd a,wd b] (.int .i64 (dv (sz a) (sz b))):=by
 refine aU G0F func45 rfl call45 zS zS (by simp [ntmps45]) ?_;intro C hC bA hY;refine iI ?_
 have e3:∀ z,Int.bmod (wi z 3) 18446744073709551616=wi z 3 - (if ng z then 18446744073709551616 else 0):=λz=>by
  exact EH
 refine fD (if nV a b 0=0 then if nV a b 1=0 then if nV a b 2=0 then 3 else 2 else 1 else 0) (Ny a b) ?_ ?_ ?_
 ·exact Hj
 ·intro i hi;have:(i=0/\nV a b 0=0)\/(i=1/\nV a b 1=0)\/(i=2/\nV a b 2=0):=by (repeat' split at hi)<;>omega
  rcases this with ⟨rfl,h⟩|⟨rfl,h⟩|⟨rfl,h⟩<;>unfold Ny
  all_goals
   refine cA (k2 h @wb.eq_1) ?_
  all_goals
   exact Hj
 ·have f1:=UF a;have f2:=UF b;have g1:=e3 a;have g2:=e3 b;have:=dJ a 0;have:=eJ a 0;have:=dJ a 1;have:=eJ a 1;have:=dJ a 2;have:=eJ a 2;have:=dJ a 3;have:=eJ a 3;have:=dJ b 0;have:=eJ b 0;have:=dJ b 1;have:=eJ b 1;have:=dJ b 2;have:=eJ b 2;have:=dJ b 3;have:=eJ b 3
  have key:∀ k,k=(if nV a b 0=0 then if nV a b 1=0 then if nV a b 2=0 then 3 else 2 else 1 else 0)->nV a b k=dv (sz a) (sz b):=λk hk=>by
   exact afm a b k hk
  have hk:=key _ rfl;generalize hN:(if nV a b 0=0 then if nV a b 1=0 then if nV a b 2=0 then 3 else 2 else 1 else 0)=N at *
  have hc:nV a b N≠0\/N=3:=by (repeat' split at hN)<;>subst hN<;>first|(left;assumption)|(right;rfl)
  by_cases hz:nV a b N=0
  ·have h3:N=3:=hc.resolve_left (λh=>h hz);subst h3;unfold Ny;refine cA (k2 hz @wb.eq_1) ?_;refine ⟨.inr trivial,?_⟩;simp [results45,<-hk,hz]
  ·have hzb:(nV a b N==0)=false:=by simpa using hz
   unfold Ny;refine cA (k2 hzb @wb.eq_1) ?_;exact eR (k2 results45 hk)
@[simp] theorem azh (a b:Int) (K:fQ):bl prog G0 45 #[Value.agg #[.int .u64 (wi (a) 0),.int .u64 (wi (a) 1),.int .u64 (wi (a) 2),.int .u64 (wi (a) 3)],Value.agg #[.int .u64 (wi (b) 0),.int .u64 (wi (b) 1),.int .u64 (wi (b) 2),.int .u64 (wi (b) 3)]] K↔K (.int .i64 (dv (sz a) (sz b))):=ar G0W ah (adX a b)
@[simp] theorem aBJ (a:Int) (K:fQ):bl prog G0 45 #[Value.agg #[.int .u64 (wi (a) 0),.int .u64 (wi (a) 1),.int .u64 (wi (a) 2),.int .u64 (wi (a) 3)],.agg #[.int .u64 0,.int .u64 0,.int .u64 0,.int .u64 0]] K↔K (.int .i64 (dv (sz a) 0)):=by
 have:=azh a 0 K;have e:sz 0=0:=zD;rw [e] at this;exact Rh
theorem Y3 (a:Int):Ret prog G0 167 #[wd a] (.int .i64 (dv (sz a) 0)):=by
 refine aU G0F func167 rfl call167 zS zS (by simp [ntmps167]) ?_;intro C hC bA hY;refine iI ?_;exact eR results167
@[simp] theorem aBK (a:Int) (K:fQ):bl prog G0 167 #[Value.agg #[.int .u64 (wi (a) 0),.int .u64 (wi (a) 1),.int .u64 (wi (a) 2),.int .u64 (wi (a) 3)]] K↔K (.int .i64 (dv (sz a) 0)):=ar G0W ah (Y3 a)
end Go.Gy
