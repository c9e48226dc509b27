/-
  Lemmas of this claim, in their order (GyRK, GyK7, GyN, GyLA, GyYB, GyYC, GyP, GyO, GyO2, GyO3, GyL, GyDA, GyLB, GyLC, GyLD).
  Conditions: those of each theorem.
-/
import Derived.Test.YtekhnalfccakmaaGreatDoorGz02
import Derived.Test.YtekhnalfccakmaaGreatDoorProg
import Derived.WalkKit
set_option linter.unusedSimpArgs false
set_option linter.unusedVariables false
namespace Go.Gy
open Go Go.RowKit
theorem Et {p:Prop} (h:p:=by
 rw [sm1 l ((Vp l).2 ⟨Gv l kl,?_⟩)]
 ·exact hl
 ·rintro ⟨i,hd,e⟩;unfold dom at hd
  cases hb:hq i with
  | none=>exact hd hb
  | some b=>have:=(dj.sat i b hb).1;rw [e,hl] at this;exact (Blk.obj_loop this).elim):p:=h
theorem Eh {p:Prop} (h:p:=by
 have hD0:(V2.putObj l (.loop (rec st pe))).heap[D0]? = some (.deferred (some [])):=by
  rw [q5 D0 (Gv D0 kD) (λ⟨i,tV,e⟩=>by
   unfold dom at tV
   cases hb:hq i with
   | none=>exact tV hb
   | some b=>have:=(dj.sat i b hb).1;rw [e,hD] at this;exact (Blk.obj_def this).elim) zO]
  exact hD
 have agO:l<V2.heap.size:=(a9.1 q1).1;refine λV' k1 k2 k3 k4 k5=>⟨q2.supp (S:=λk=>S k\/(V.heap.size<=k/\k<V2.heap.size)) (λk hk=>.inl (Lk k hk)) (λi hd=>?_) (λD hD=>.inl (L8 D hD)) V' k1 k2 k3 k4 k5,(k1 l (.inl kl)).trans (jq agO),(k1 D0 (.inl kD)).trans hD0⟩
 rcases q3 i hd with h|h
 ·exact Gm
 ·exact .inl h):p:=h
section
variable {P:Program} {G:Hp}
structure IterK (P:Program) (G:Hp) (f:FuncId) (bh:bV) (hp:Hp) (rs:List Nat) (xs:List (Array Value)):Prop where
 enter:∀ a w,(callFunc f a).run P w=.ok (.enter f a) w
 cids:∀ x∈bh,da x=true/\aN (dom (rst hp rs)) x
 closed:∀ k b,rst hp rs k=some b->b.ids (dom (rst hp rs))
 run:∀ (E:Ext) (l stop:Nat) r S W,GOK G W->Sat r (dom (rst hp rs)) (rst hp rs) W->Inj r (dom (rst hp rs))->(∀ k,k<100->dom (rst hp rs) k->r k=k)->pE P G E ⟨l,xs,stop,none,none⟩->E.X 0 S W->(∀ k,S k->k<W.heap.size) ->
  (∀ i,dom (rst hp rs) i->100<=i->¬S (r i)) ->
  jD P f (#[Value.func (.yield l) #[] #[]]++bh.map (ren r)) W λe W'=>(∃ v,e=.returned v)/\(∃ S',E.X (min (stop+1) xs.length) S' W')/\∀ k,dom (rst hp rs) k->W'.heap[r k]? = W.heap[r k]?
theorem IterK.g {f:FuncId} {bh:bV} {hp:Hp} {rs:List Nat} {xs:List (Array Value)} (h:IterK P G f bh hp rs xs):pD P G f bh hp rs xs :=
 ⟨h.enter,h.cids,h.closed,λE l stop r S W h1 h2 h3 h4 _ h5 h6 h7 h8=>(h.run E l stop r S W h1 h2 h3 h4 h5 h6 h7 h8).mono λ_ _ hh=>⟨hh.1,hh.2.1⟩⟩
theorem XR {f:FuncId} {fn:Func} {c:Code} {bh:bV} {hp:Hp} {rs:List Nat} {xs:List (Array Value)} {B:Nat} {v:Value} (cK:ct G) (hG:∀ k,k<100->hp k=G k) (hf:P.funcs[f]? = some fn) (hb:fn.body=some c) (eP:∀ a w,(callFunc f a).run P w=.ok (.enter f a) w)
  (ha:∀ x∈bh,da x=true/\aN (dom (rst hp rs)) x) (mM:∀ k b,rst hp rs k=some b->b.ids (dom (rst hp rs))) (hn:bh.size+1<=fn.ntmps) (hB:100<=B) (dx:∀ x,B<=x->rst hp rs x=none)
  (h:∀ (C:Ctx) (l stop:Nat),C.G=G->C.hp0=rst hp rs->C.Y=some ⟨l,xs,stop,none,none⟩->GW P C fn.ntmps [] none c ⟨λt=>(#[Value.func (.yield l) #[] #[]]++bh).getD t undef,rst hp rs,B,0⟩
   (λe s=>(e=.normal\/e=.ret)/\qa P fn.results.toList s.ts s.hp=some v/\s.yc=min (stop+1) xs.length/\∀ k,dom (rst hp rs) k->s.hp k=rst hp rs k)):IterK P G f bh hp rs xs:=by
 refine ⟨eP,ha,mM,λE l stop r S W fM hZ gu ba hR hX hS kW=>callsIn_of_wp_marks hf hb ⟨fn,hf⟩ ?_⟩;let C:Ctx:=⟨E,rst hp rs,r,G,some ⟨l,xs,stop,none,none⟩⟩
 have hi:GI P C fn.ntmps [] r ⟨λt=>(#[Value.func (.yield l) #[] #[]]++bh).getD t undef,rst hp rs,B,0⟩
   { tmps:=(#[Value.func (.yield l) #[] #[]]++bh.map (ren r))++Array.replicate (fn.ntmps - (#[Value.func (.yield l) #[] #[]]++bh.map (ren r)).size) undef,defers:=[] } W:=by
  exact EH
 refine wpIn_mono (h C l stop rfl rfl rfl r _ W hi) ?_;rintro e a' W' ⟨s',r',HW,cv⟩;obtain ⟨S',ms,RF,MP,HM,⟨pZ,BS⟩,sv⟩:=cv.ri.ext;obtain ⟨he,hr,hy,Vw⟩:=HW
 have cm:∀ gF:World,gF.heap.size=W'.heap.size->gF.os=W'.os->gF.tape=W'.tape->gF.output=W'.output->(∀ k,k∉ms->gF.heap[k]? = W'.heap[k]?) ->
   LeavesIn (Fw P none) 0 P fn a'.tmps (λe W'=>(∃ v,e=.returned v)/\(∃ S',E.X (min (stop+1) xs.length) S' W')/\∀ k,dom (rst hp rs) k->W'.heap[r k]? = W.heap[r k]?) [] .returning gF:=λgF e1 e2 e3 e4 e5=>by
  have qU:Sat r' (dom s'.hp) s'.hp gF:=λk b hk=>⟨by
   rw [e5 _ (λhm=>cv.ri.ne_mark gD (sv _ hm).1 rfl)];exact (cv.ri.sat k b hk).1,(cv.ri.sat k b hk).2⟩
  refine ⟨_,jP (fn:=fn) cv.ri.rel qU hr,⟨_,rfl⟩,⟨S',?_⟩,λk hk=>?_⟩;rotate_left
  ·have TR:dom s'.hp k/\r' k=r k:=cv.ri.keep k hk;unfold dom at hk
   cases hb:rst hp rs k with
   | none=>exact absurd hb hk
   | some b =>
    have e6:s'.hp k=some b:=(Vw k fF).trans hb;have e7:=(qU k b e6).1;rw [TR.2,Blk.obj_congr (λq hq=>(cv.ri.keep q hq).2) (mM k b hb)] at e7;rw [e7,(hZ k b hb).1]
  exact CW
 exact mq
end
section
variable {P:Program} {G:Hp}
variable {C:Ctx} {n:Nat} {d:List Deferred} {s:GS} {K:kV}
def ux (C:Ctx) (l:Nat):Prop:=∀ c S W,C.E.X c S W->S l/\∃ r0,W.heap[l]? = some (.loop r0)
theorem UJ {t:Tmp} {ps:Array Tmp} {assign body:Code} {f:FuncId} {bh:bV} {rs:List Nat} {xs:List (Array Value)} (hg:s.ts t=.func (.func f) #[] bh) (ny:IterK P C.G f bh s.hp rs xs)
  (yH:∀ x∈xs,x.size=ps.size/\∀ v∈x,bz v=true) (JY:∀ p∈ps,p<n) (fX:eM) (I:Nat->Hp->Prop) {hpS:Hp} (B:Nat) (N:Nat) (hN:N<=xs.length)
  (hw:Weak C s ⟨fX,hpS,B,s.yc⟩) (h0:I 0 hpS) (kW:∀ k∈rs,hpS k=none/\dom s.hp k)
  (rounds:∀ i x hq,i<N->xs[i]? = some x->I i hq->∀ (C1:Ctx) (l:Nat),C1.G=C.G->C1.hp0=hq->C1.Y=none->GW P C1 n [] (some l) assign ⟨bC ps.toList x.toList fX,hq,B,0⟩
   (dU (λs1=>∀ C2:Ctx,C2.G=C.G->C2.hp0=hq->C2.Y=none->ux C2 l->GW P C2 n [] (some l) body s1 (dU (λs2=>∃ ρ y8,WeakR C ρ ⟨fX,s2.hp,s2.B,s.yc⟩ ⟨fX,y8,B,s.yc⟩/\I (i+1) y8) (λ_ _=>False))) (λ_ _=>False)))
  (fin:(N=xs.length/\∀ hq,I N hq->K .normal ⟨fX,hq,B,s.yc⟩)\/∃ x,xs[N]? = some x/\∀ hq,I N hq->∀ (C1:Ctx) (l:Nat),C1.G=C.G->C1.hp0=hq->C1.Y=none->GW P C1 n [] (some l) assign ⟨bC ps.toList x.toList fX,hq,B,0⟩
    (dU (λs1=>∀ C2:Ctx,C2.G=C.G->C2.hp0=hq->C2.Y=none->ux C2 l->GW P C2 n [] (some l) body s1 (λe s2=>(eV e).isSome=true/\(∀ t,aN (dom s2.hp) (fX t))/\K e ⟨fX,s2.hp,s2.B,s.yc⟩)) (λ_ _=>False)))
  (hYn:C.Y≠some .still) {r:cI} {a:Act} {W:World} (jM:GI P C n d r s a W) :
  (Code.rangeFunc (.tmp t) ps assign body).wpIn (Fw P none) 0 P (λe a' W'=>∃ s' r',(K e s'/\GI P C n d r' s' a' W')/\a'.tmps=a.tmps/\(∀ k,dom (rst s.hp rs) k->W'.heap[r k]? = W.heap[r k]?)/\(∀ i,dom s'.hp i->∀ k∈rs,100<=k->r' i≠r k)) a W:=by
 obtain ⟨pn,o7⟩:∃ pn:Option Value,pn=none:=⟨_,rfl⟩
 have hi:=jM.weak hw;obtain ⟨So,ms,hX0,MQ,sx,⟨pZ,BS⟩,sv⟩:=jM.ri.ext
 have JU:a.eval (.tmp t)=.func (.func f) #[] (bh.map (aA r)):=by
  exact w9
 have dS:bh.map (aA r)=bh.map (ren r):=bK λx hx=>(hU (ny.cids x hx).1).symm;rw [dS] at JU;refine wpIn_rangeFunc ?_;rintro fn ⟨Xg,MX⟩;obtain ⟨rec,n9⟩:∃ rec:LoopState->Option Code->Loop,rec=λst pe=>{ state:=st,pending:=pe,fn,tmps:=a.tmps,params:=ps,assign,body,defers:=W.heap.size }:=⟨_,rfl⟩
 obtain ⟨W1,hW1⟩:∃ W1,(W.alloc (.deferred (some []))).alloc (.loop (rec .ready none))=W1:=⟨_,rfl⟩
 have hL1:W1.heap[W.heap.size+1]? = some (.loop (rec .ready none)):=by
  exact wZ
 have hK1:W1.heap[W.heap.size]? = some (.deferred (some [])):=by
  exact w8
 have amb:W1.heap.size=W.heap.size+2:=by rw [<-hW1];simp
 have ju:Below W.heap.size W W1:=by
  exact wV
 let l:=W.heap.size+1;let D0:=W.heap.size;let AT:Nat->Prop:=λj=>∃ i,i∈rs/\100<=i/\r i=j
 -- Vc is said aaP two rounds
 let Lv:LoopState->Option Code->World->Prop:=λst pe V=>V.heap[l]? = some (.loop (rec st pe))/\V.heap[D0]? = some (.deferred (some []))
 let XX:Nat->(Nat->Prop)->World->Prop:=λc S V=>(∀ k,So k->S k)/\(∀ D∈ms,S D)/\S l/\S D0/\(∀ k,S k->¬AT k) /\
  ((c<=N/\∃ hq,I c hq/\(∀ x,B<=x->hq x=none)/\∃ rc,(∀ i,dom hq i->S (rc i))/\tf S V (λV'=>Own0 C d So ms s.yc a rc fX hq V'/\Lv .ready none V')) \/
  (c=N+1/\∃ e mO BE rc,((pn=none/\(eV e).isSome=true)\/∃ pv,pn=some pv/\e=.panic [{ v:=pv,recovered:=false }])/\K e ⟨fX,mO,BE,s.yc⟩/\(∀ x,BE<=x->mO x=none)/\100<=BE/\(∀ i,dom mO i->S (rc i))/\tf S V (λV'=>Own0 C d So ms s.yc a rc fX mO V'/\V'.heap[D0]? = some (.deferred (some []))/\∀ j,eV e=some j->Lv .done (some j) V')))
 let E:Ext:=⟨XX,λc S V V' h hs os tape output size=>⟨h.1,h.2.1,h.2.2.1,h.2.2.2.1,h.2.2.2.2.1,h.2.2.2.2.2.imp (λ⟨hc,hq,hI,hf,rc,h1,h2⟩=>⟨hc,hq,hI,hf,rc,h1,h2.trans (λ_ h=>h) hs os tape output size⟩)
  (λ⟨hc,e,mO,BE,rc,h1,h2,h3,h4,h5,h6⟩=>⟨hc,e,mO,BE,rc,h1,h2,h3,h4,h5,h6.trans (λ_ h=>h) hs os tape output size⟩)⟩⟩
 have sub:∀ i,dom (hpS) i->dom s.hp i:=λi hd=>by
  have yY:hpS i=none\/hpS i=s.hp i:=by
   exact xK
  rcases yY with e|e
  ·exact absurd e hd
  ·have e:hpS i=s.hp i:=e;unfold dom at *;rw [<-e];exact hd
 have zg:Own0 C d So ms s.yc a r fX (hpS) W1:=⟨hi.ri.rel,λk b hk=>⟨(ju.block _ (hi.ri.lt (k:=k) (by unfold dom;show hpS k≠none;rw [hk];simp))).trans (hi.ri.sat k b hk).1,(hi.ri.sat k b hk).2⟩,hi.ri.inj,
  C.E.ok _ _ _ _ hX0 (λk hk=>ju.block k (MQ k hk)) ju.os ju.tape ju.output ju.size,λi hd h1=>sx i (sub i hd) h1,
  λD hD=>(ju.block D (a9.1 (sv D hD).1).1).trans (sv D hD).1,hi.ri.keep,hi.ri.glob,hi.ri.low⟩
 have Nc:∀ i,dom s.hp i->AT (r i)->i∈rs:=λi hd ⟨j,hj,_,e⟩=>by
  have:=jM.ri.inj j i (kW j hj).2 hd e;exact this▸hj
 let S1:Nat->Prop:=λk=>k<W1.heap.size/\¬AT k;have zA:∀ k,AT k->k<W.heap.size:=λk ⟨i,jU,_,e⟩=>e▸jM.ri.lt (kW i jU).2;have Oe:∀ k,So k->S1 k:=λk hk=>⟨rh,λ⟨i,jU,h1,e⟩=>sx i (kW i jU).2 h1 (e▸hk)⟩
 have Og:∀ D∈ms,S1 D:=λD hD=>⟨vY,λ⟨i,jU,_,e⟩=>jM.ri.ne_mark (kW i jU).2 (sv D hD).1 e⟩
 have s1l:S1 l:=⟨zO,λhc=>lP⟩
 have s1D:S1 D0:=⟨zO,λhc=>lP⟩
 have Of:∀ i,dom (hpS) i->S1 (r i):=λi hd=>⟨vJ,λhc=>hd (kW i (Nc i (sub i hd) hc)).1⟩
 have X0:XX 0 S1 W1:=⟨Oe,Og,s1l,s1D,λk hk=>hk.2,.inl ⟨fC _,hpS,h0,hw.free,r,Of,λV k1 k2 k3 k4 k5=>⟨zg.supp Oe Of Og V k1 k2 k3 k4 k5,(k1 l s1l).trans hL1,(k1 D0 s1D).trans hK1⟩⟩⟩
 have MN:∀ {rc:cI} {fP:Hp} {V:World},Sat rc (dom fP) fP V->(∀ k,k<100->fP k=C.G k)->(∀ k,k<100->dom fP k->rc k=k)->GOK C.G V:=λ{rc fP V} h1 h2 h3 k b hk=>by
  exact wY
 -- one round
 have nD:pE P C.G E ⟨l,xs,N,pn,none⟩:=by
  refine pE.of_none rfl ?_;intro c x S V fM hx hc hXc Gv;obtain ⟨Lk,L8,kl,kD,ahi,mF⟩:=hXc;have hcN:c<=N:=hc
  obtain ⟨yz,hq,hI,PN,rc,nC,lj⟩:c<=N/\∃ hq,I c hq/\(∀ x,B<=x->hq x=none)/\∃ rc,(∀ i,dom hq i->S (rc i))/\tf S V (λV'=>Own0 C d So ms s.yc a rc fX hq V'/\Lv .ready none V'):=by
   exact xA
  obtain ⟨dj,hl,hD⟩:=lj.here;have hxm:=yH x (qg hx);have hy:=run_yield (P:=P) (args:=x) hl (by rw [n9];exact hxm.1);rw [n9] at hy;refine ⟨fn,_,assign,body,hy,nE ⟨Xg,MX⟩ MX ?_⟩;have XF:=Iy (r:=rc) (D:=dom hq) (ps.toList.zip x.toList) fX a.tmps (λp hp1=>⟨wL,hxm.2 _ (by simpa using (qp hp1).2)⟩) dj.ri
  have htm:(ps.zip x).foldl (λt (p:Tmp×Value)=>t.setIfInBounds p.1 p.2) a.tmps=(ps.toList.zip x.toList).foldl (λt (p:Tmp×Value)=>t.setIfInBounds p.1 p.2) a.tmps:=by
   rw [<-nM,uP]
  have XH:((ps.zip x).foldl (λt (p:Tmp×Value)=>t.setIfInBounds p.1 p.2) a.tmps).size=n:=by
   rw [htm,mE,jM.ri.size]
  let im:Nat->Prop:=imO rc hq
  let RR:Ending->World->Prop:=λe W'=>(match (YG.mk l xs N pn none).pan c with|none=>e=.returned (.bool (c != N))|some pv=>e=.panicked [{ v:=pv,recovered:=false }])/\GOK C.G W'/\V.heap.size<=W'.heap.size/\(∀ k,k<V.heap.size->¬S k->W'.heap[k]? = V.heap[k]?) /\
      ∃ S',XX (c+1) S' W'/\(∀ k,S' k->k<W'.heap.size)/\∀ k,S' k->k<V.heap.size->S k
  -- VH assignment to VH ahq U9
  let C1:Ctx:=⟨iI V im,hq,rc,C.G,none⟩
  have ltV:∀ i,dom hq i->rc i<V.heap.size:=λi hd=>Gv _ (nC i hd)
  have gi1:GI P C1 n [] rc ⟨bC ps.toList x.toList fX,hq,B,0⟩ { tmps:=(ps.zip x).foldl (λt (p:Tmp×Value)=>t.setIfInBounds p.1 p.2) a.tmps,defers:=[] } V:=by
   exact xx
  have PK:¬So l:=λh=>by have:=MQ _ h;omega
  -- a SC frame,from its assignment on
  have both:∀ (Kb:kV),GW P C1 n [] (some l) assign ⟨bC ps.toList x.toList fX,hq,B,0⟩ (dU (λs1=>∀ C2:Ctx,C2.G=C.G->C2.hp0=hq->C2.Y=none->ux C2 l->GW P C2 n [] (some l) body s1 Kb) (λ_ _=>False)) ->
    (∀ e s2 (r2:cI) (V1 V2:World) (a1 a2:Act) (r1:cI) (ts1:eM) (hp1:Hp) (y1:Nat) (D1:gA),(∀ k,k<V.heap.size->D1 k->imO r1 hp1 k)->¬D1 l->Kb e s2->RI ⟨iI V im,hq,rc,C.G,none⟩ n [] r1 ts1 hp1 y1 a1 V1 ->
     GI P ⟨iI (V1.putObj l (.loop (rec .busy none))) D1,hq,rc,C.G,none⟩ n [] r2 s2 a2 V2->lu (Fs P) 0 P Xg l RR e a2 V2) ->
    assign.wpIn ((Fs P).inRound l) 0 P (Exit.then (λa₁ w₁=>∃ w₂,(Instr.beginRound l).run P w₁=.ok () w₂/\body.wpIn ((Fs P).inRound l) 0 P (lu (Fs P) 0 P Xg l RR) a₁ w₂) (λ_ _ _=>False))
     { tmps:=(ps.zip x).foldl (λt (p:Tmp×Value)=>t.setIfInBounds p.1 p.2) a.tmps,defers:=[] } V:=λKb hgw cm=>by
   refine wpIn_mono (hgw rc _ V gi1) ?_;rintro e a1 V1 ⟨s1,r1,nz,gi⟩
   cases e with
   | normal =>
    obtain ⟨T1,m1,⟨Vp,os1,tp1,ou1,sz1,sm1⟩,ago,UU,df1,ZZ⟩:=gi.ri.ext
    have HU:V1.heap[l]? = some (.loop (rec .ready none)):=by
     exact Et
    refine ⟨_,run_beginRound HU me,?_⟩;have hrb:{ rec .ready none with state:=.busy }=rec .busy none:=me;rw [hrb];have PS:l<V1.heap.size:=(a9.1 HU).1;let D1:Nat->Prop:=λk=>imO r1 s1.hp k\/k∈m1;let C2:Ctx:=⟨iI (V1.putObj l (.loop (rec .busy none))) D1,hq,rc,C.G,none⟩
    have ug:GI P C2 n [] r1 s1 a1 (V1.putObj l (.loop (rec .busy none))):=by
     exact xG
    have hLA:ux C2 l:=λc S V0 h=>by
     have hS:S l:=(h.1 l).2 ⟨by rw [gS];exact PS,λhD=>hD.elim (λh=>gi.ri.not_loop HU h) λh=>by have:=(ZZ l h).1;rw [HU] at this;cases this⟩;exact ⟨hS,_,(h.2.2.2.2.2 l hS).trans (jq PS)⟩
    refine wpIn_mono (nz C2 rfl rfl rfl hLA r1 a1 _ ug) ?_;exact F6
   | _=>exact nz.elim
  -- Vc a round leaves,put Zz
  have post:∀ (st:LoopState) (pe:Option Code) (r2:cI) (V1 V2:World) (a1 a2:Act) (r1:cI) (ts1 ts2:eM) (hp1 hp2:Hp) (y1 y2:Nat) (D1:gA),(∀ k,k<V.heap.size->D1 k->imO r1 hp1 k)->¬D1 l->RI ⟨iI V im,hq,rc,C.G,none⟩ n [] r1 ts1 hp1 y1 a1 V1 ->
    RI ⟨iI (V1.putObj l (.loop (rec .busy none))) D1,hq,rc,C.G,none⟩ n [] r2 ts2 hp2 y2 a2 V2 ->
    V2.heap[l]? = some (.loop (rec .busy none))/\GOK C.G (V2.putObj l (.loop (rec st pe)))/\V.heap.size<=(V2.putObj l (.loop (rec st pe))).heap.size/\(∀ k,k<V.heap.size->¬S k->(V2.putObj l (.loop (rec st pe))).heap[k]? = V.heap[k]?) /\
    ∃ S':Nat->Prop,(∀ k,So k->S' k)/\(∀ D∈ms,S' D)/\S' l/\S' D0/\(∀ i,dom hp2 i->S' (r2 i))/\tf S' (V2.putObj l (.loop (rec st pe))) (λV'=>Own0 C d So ms s.yc a r2 fX hp2 V'/\Lv st pe V') /\
     (∀ k,S' k->k<(V2.putObj l (.loop (rec st pe))).heap.size)/\(∀ k,S' k->k<V.heap.size->S k):=λst pe r2 V1 V2 a1 a2 r1 ts1 ts2 hp1 hp2 y1 y2 D1 HL sr AH N8=>by
   obtain ⟨_,q1,q2,q3,q4,q5,q6⟩:=Bo (L2:=rec st pe) jM.flat dj PK Gv Lk L8 nC hl AH HL sr N8;have sz:(V2.putObj l (.loop (rec st pe))).heap.size=V2.heap.size:=gS _ _ _;have Xz:∀ k,¬S k->¬imO rc hq k:=λk hk ⟨i,hd,e⟩=>hk (e▸nC i hd);refine ⟨q1,q6,by rw [sz];exact q4,λk hk IY=>q5 k hk (Xz k IY) (λe=>IY (e▸kl)),λk=>S k\/(V.heap.size<=k/\k<V2.heap.size),λk hk=>.inl (Lk k hk),λD hD=>.inl (L8 D hD),.inl kl,.inl kD,λi hd=>?_,?_,λk hk=>?_,λk hk cA=>?_⟩
   ·exact sg
   ·exact Eh
   ·exact xd
   ·exact hk.resolve_right zO
  have akS:∀ S':Nat->Prop,(∀ k,S' k->k<V.heap.size->S k)->∀ k,S' k->¬AT k:=λS' zR k hk hc=>by
   by_cases cA:k<V.heap.size
   ·exact ahi k (zR k hk cA) hc
   ·have h5:=zA k hc;have h6:=Gv D0 kD;exact cA zO
  by_cases hcn:c<N
  ·refine both _ (rounds c x hq hcn hx hI C1 l rfl rfl rfl) ?_;intro e s2 r2 V1 V2 a1 a2 r1 ts1 hp1 y1 D1 HL sr hk AH ug
   cases e with
   | normal =>
    obtain ⟨ρ,y8,J0,hI'⟩:=hk;obtain ⟨p1,p2,p3,p4,S',p5,p6,p7,p8,p9,kX,ll,m8⟩:=post .ready none r2 V1 V2 a1 a2 r1 ts1 _ hp1 _ y1 _ D1 HL sr AH ug.ri;have cm:=run_endRound (P:=P) none p1;rw [n9] at cm p2 p3 p4 kX ll;refine ⟨_,_,cm,?_,p2,p3,p4,S',⟨p5,p6,p7,p8,akS S' m8,.inl ⟨hcn,y8,hI',J0.free,λk=>r2 (ρ k),λi hd=>p9 (ρ i) (J0.subd (λk hk=>ug.ri.glob k hk) i hd),?_⟩⟩,ll,m8⟩
    ·exact DR
    ·intro V' k1 k2 k3 k4 k5;have:=kX V' k1 k2 k3 k4 k5;exact ⟨this.1.rename J0,by simpa [n9] using this.2⟩
   | _=>exact hk.elim
  ·obtain rfl:c=N:=zO
   have RP:(YG.mk l xs c pn none).pan c=pn:=by
    show (if c=c then pn else none)=pn;rw [ai rfl]
   cases pn with
   | none =>
    rcases fin with ⟨e,_⟩|⟨x',tn,PM⟩
    ·obtain ⟨h9,_⟩:=lD.1 hx;have h9:c<xs.length:=h9;omega
    ·have hx:xs[c]? = some x:=hx;rw [hx] at tn;cases tn;refine both _ (PM hq hI C1 l rfl rfl rfl) ?_;intro e s2 r2 V1 V2 a1 a2 r1 ts1 hp1 y1 D1 HL sr hk AH ug;obtain ⟨nz,mN,yZ⟩:=hk
     cases ho:eV e with
     | none=>rw [ho] at nz;cases nz
     | some j =>
      obtain ⟨p1,p2,p3,p4,S',p5,p6,p7,p8,p9,kX,ll,m8⟩:=post .done (some j) r2 V1 V2 a1 a2 r1 ts1 _ hp1 _ y1 _ D1 HL sr AH ug.ri;have cm:=run_endRound (P:=P) (some j) p1;rw [n9] at cm p2 p3 p4 kX ll
      have hR:∃ v w',(Instr.endRound l (some j)).run P V2=.ok v w'/\RR (.returned v) w':=by
       refine ⟨_,_,cm,?_,p2,p3,p4,S',⟨p5,p6,p7,p8,akS S' m8,.inr ⟨rfl,e,s2.hp,s2.B,r2,.inl ⟨rfl,nz⟩,yZ,ug.free,ug.low,p9,?_⟩⟩,ll,m8⟩
       ·rw [RP];simp
       ·exact xb
      exact xO
   | some pv=>cases o7
 -- behind VH iterator
 refine ⟨l,[H9 D0],W1,{ target:=.fn (.func f) (bh.map (ren r)),args:=#[.func (.yield l) #[] #[]] },W1,f,#[Value.func (.yield l) #[] #[]]++bh.map (ren r),W1,?_,?_,λf' Vr=>?_,?_,λh=>ew,?_⟩
 ·exact wS
 ·exact xk
 ·exact xj
 ·simp [invoke,go_sem,ny.enter]
 ·have MZ:Sat r (dom (rst s.hp rs)) (rst s.hp rs) W1:=λk b hk=>⟨(ju.block _ (jM.ri.lt (k:=k) (by unfold dom;rw [iO hk];simp))).trans (jM.ri.sat k b (iO hk)).1,ny.closed k b hk⟩
  have tW:∀ k,dom (rst s.hp rs) k->dom s.hp k:=λk hk=>by
   exact Fb
  subst o7;have HQ:=ny.run E l N r S1 W1 (MN zg.sat zg.glob zg.low) MZ (λk l' hk hl=>jM.ri.inj k l' (tW k hk) (tW l' hl)) (λk hk hd=>jM.ri.low k hk (tW k hd)) nD X0 (λk hk=>hk.1) (λi hd h1 hS=>hS.2 ?_)
  ·refine nT (HQ:CallsIn (Fw P none) 0 P _ _ _ _) ?_
   -- VH ac2 O5,behind it all
   have giV:∀ (rc:cI) (mO:Hp) (BE:Nat) (V:World),(∀ x,BE<=x->mO x=none)->100<=BE->Own0 C d So ms s.yc a rc fX mO V->V.heap[D0]? = some (.deferred (some []))->W.heap.size<=V.heap.size ->
     GI P C n d rc ⟨fX,mO,BE,s.yc⟩ { a with defers:=[H9 D0]++a.defers } V:=λrc mO BE V dx RC dj hD yg =>
    ⟨⟨jM.ri.size,dj.ri,dj.sat,dj.inj,
     ⟨So,D0::ms,dj.X,λk hk=>j8 (MQ k hk) yg,dj.sep,⟨by simp [pZ],gO.2 ⟨λhm=>by have:=(a9.1 (sv D0 hm).1).1;omega,BS⟩⟩,λD IV=>by
      rcases al.1 IV with rfl|IV
      ·exact ⟨hD,(λhS=>by have:=MQ _ hS;omega),hYn⟩
      ·exact ⟨dj.mks D IV,(sv D IV).2⟩⟩,
     dj.keep,dj.glob,dj.low⟩,dx,RC,jM.flat,jM.rounds⟩
   have asx:∀ {S:gA} {V:World} {c:Nat},XX c S V->(∀ V,XX c S V->S l->True)->V.heap[D0]? = some (.deferred (some []))->W.heap.size<=V.heap.size:=λ{S V c} _ _ h=>by
    have:=(a9.1 h).1;omega
   rintro e V ⟨⟨v,rfl⟩,⟨S',hX⟩,agI⟩;obtain ⟨Lk,L8,kl,kD,ahi,mF⟩:=hX
   have RZ:∀ ob k,dom (rst s.hp rs) k->(V.putObj l ob).heap[r k]? = W.heap[r k]?:=λob k hk=>by
    have cA:=jM.ri.lt (tW k hk);rw [eH (λe=>by have e':W.heap.size+1=r k:=e.symm;omega),agI k hk];exact ju.block _ cA
   have Se:∀ (rc:cI) (mO:Hp),(∀ i,dom mO i->S' (rc i))->∀ i,dom mO i->∀ k∈rs,100<=k->rc i≠r k:=λrc mO nC i hd k hk h1 e=>ahi (rc i) (nC i hd) ⟨k,hk,h1,e.symm⟩
   have Py:∀ (st:LoopState) (pe:Option Code) (rc:cI) (mO:Hp) (BE:Nat),st≠.busy->(∀ x,BE<=x->mO x=none)->100<=BE->Own0 C d So ms s.yc a rc fX mO V->Lv st pe V ->
     (Instr.endLoop l).run P V=.ok pe (V.putObj l (.loop { rec st pe with state:=.exhausted }))/\GI P C n d rc ⟨fX,mO,BE,s.yc⟩ { a with defers:=[H9 D0]++a.defers } (V.putObj l (.loop { rec st pe with state:=.exhausted })):=λst pe rc mO BE tc dx RC dj ⟨hl,hD⟩=>by
    exact xJ
   rcases mF with ⟨yz,hq,hI,dx,rc,nC,lj⟩|⟨yz,e,mO,BE,rc,ho,hk,dx,RC,nC,lj⟩
   ·obtain ⟨dj,Z6⟩:=lj.here;have hNl:N=xs.length:=zO;have Xy:min (N+1) xs.length=N:=zO;rw [Xy] at hI;obtain ⟨f1,f2⟩:=Py .ready none rc hq B zS dx hw.low dj Z6;rcases fin with ⟨_,hK⟩|⟨x',tn,_⟩
    ·exact ⟨none,_,f1,_,rc,⟨hK hq hI,f2⟩,rfl,RZ _,Se rc hq nC⟩
    ·obtain ⟨h9,_⟩:=lD.1 tn;omega
   ·obtain ⟨dj,_,Z6⟩:=lj.here;rcases ho with ⟨_,ho⟩|⟨pv,h1,_⟩
    ·cases Jl:eV e with
     | none=>rw [Jl] at ho;cases ho
     | some j =>
      obtain ⟨f1,f2⟩:=Py .done (some j) rc mO BE zS dx RC dj (Z6 j Jl);refine ⟨some j,_,f1,?_⟩;cases e<;>simp only [eV,bg,reduceCtorEq] at Jl
      ·subst Jl;exact wpIn_exit ⟨_,rc,⟨hk,f2⟩,rfl,RZ _,Se rc mO nC⟩
      ·subst Jl;exact wpIn_goto ⟨_,rc,⟨hk,f2⟩,rfl,RZ _,Se rc mO nC⟩
      ·subst Jl;exact wpIn_ret ⟨_,rc,⟨hk,f2⟩,rfl,RZ _,Se rc mO nC⟩
    ·cases h1
  ·exact Eu
theorem IterK.under {f:FuncId} {bh:bV} {hp db:Hp} {rs:List Nat} {xs:List (Array Value)} (h:IterK P G f bh hp rs xs) (e:rst db rs=rst hp rs):IterK P G f bh db rs xs :=
 ⟨h.enter,by rw [e];exact h.cids,by rw [e];exact h.closed,by rw [e];exact h.run⟩
def eW (gr:List Nat) (hp0 hp:Hp):Hp:=λk=>if k∈gr then hp0 k else hp k
theorem WeakR.ctx {C':Ctx} {ρ:cI} {s s':GS} (h:C.hp0=C'.hp0) (hG:C.G=C'.G) (hw:WeakR C ρ s s'):WeakR C' ρ s s':=⟨hw.ts,hw.hp,hw.ids,hw.inj,hw.id,by rw [<-hG];exact hw.rest,by rw [<-h];exact hw.keep,by rw [<-hG];exact hw.glob,hw.yc,hw.free,hw.low⟩
theorem Hh {t:Tmp} {ps:Array Tmp} {assign body:Code} {f:FuncId} {bh:bV} {rs:List Nat} {xs:List (Array Value)} (gr:List Nat) (hY:C.Y=none) (hg:s.ts t=.func (.func f) #[] bh) (ny:IterK P C.G f bh s.hp rs xs)
  (yH:∀ x∈xs,x.size=ps.size/\∀ v∈x,bz v=true) (JY:∀ p∈ps,p<n) (fX I2:eM) (I:Nat->Hp->Prop) {hpS:Hp} (B:Nat) (N:Nat) (hN:N<=xs.length)
  (zZ:∀ k∈rs,k∈gr) (has:∀ k∈gr,100<=k/\dom s.hp k) (mM:∀ k∈gr,∀ b,s.hp k=some b->b.ids λq=>q∈gr\/(q<100/\dom C.G q))
  (hw:∀ C0:Ctx,C0.G=C.G->(C0.hp0=λk=>if k∈gr then none else C.hp0 k)->Weak C0 s ⟨fX,hpS,B,s.yc⟩) (h0:I 0 hpS) (IY:∀ k∈gr,hpS k=none)
  (hF:∀ u,I2 u=fX u\/(I2 u=s.ts u/\aN (λq=>q∈gr) (s.ts u)))
  (rounds:∀ i x hq,i<N->xs[i]? = some x->I i hq->∀ (C1:Ctx) (l:Nat),C1.G=C.G->C1.hp0=hq->C1.Y=none->GW P C1 n [] (some l) assign ⟨bC ps.toList x.toList fX,hq,B,0⟩
   (dU (λs1=>∀ C2:Ctx,C2.G=C.G->C2.hp0=hq->C2.Y=none->ux C2 l->GW P C2 n [] (some l) body s1 (dU (λs2=>∃ ρ y8,(∀ C0:Ctx,C0.G=C.G->(C0.hp0=λk=>if k∈gr then none else C.hp0 k)->WeakR C0 ρ ⟨fX,s2.hp,s2.B,s.yc⟩ ⟨fX,y8,B,s.yc⟩)/\I (i+1) y8) (λ_ _=>False))) (λ_ _=>False)))
  (fin:(N=xs.length/\∀ hq,I N hq->(∀ k∈gr,hq k=none/\k<B)/\K .normal ⟨I2,eW gr s.hp hq,B,s.yc⟩)\/∃ x,xs[N]? = some x/\∀ hq,I N hq->∀ (C1:Ctx) (l:Nat),C1.G=C.G->C1.hp0=hq->C1.Y=none->GW P C1 n [] (some l) assign ⟨bC ps.toList x.toList fX,hq,B,0⟩
    (dU (λs1=>∀ C2:Ctx,C2.G=C.G->C2.hp0=hq->C2.Y=none->ux C2 l->GW P C2 n [] (some l) body s1 (λe s2=>(eV e).isSome=true/\(∀ t,aN (dom s2.hp) (fX t))/\(∀ k∈gr,s2.hp k=none/\k<s2.B)/\K e ⟨I2,eW gr s.hp s2.hp,s2.B,s.yc⟩)) (λ_ _=>False))) :
  GW P C n d none (.rangeFunc (.tmp t) ps assign body) s K:=by
 intro r a W hi;obtain ⟨So,ms,hX0,MQ,sx,pZ,sv⟩:=hi.ri.ext;have Xn:∀ k,k<100->k∉gr:=λk hk hm=>by have:=(has k hm).1;omega
 let A:Nat->Prop:=λj=>∃ i,i∈gr/\i∉rs/\r i=j
 let E':Ext:=⟨λc S V=>C.E.X c So V/\(∀ k,So k->S k)/\∀ j,A j->S j/\V.heap[j]? = W.heap[j]?,
  λc S V V' h hs os tape output size=>⟨C.E.ok _ _ _ _ h.1 (λk hk=>hs k (h.2.1 k hk)) os tape output size,h.2.1,λj hj=>⟨(h.2.2 j hj).1,(hs j (h.2.2 j hj).1).trans (h.2.2 j hj).2⟩⟩⟩
 let C':Ctx:={ C with E:=E',hp0:=λk=>if k∈gr then none else C.hp0 k }
 have L7:=hw C' rfl rfl;let zY:Hp:=λk=>if k∈rs then s.hp k else hpS k
 let s':GS:=⟨λu=>if u=t then s.ts t else fX u,zY,s.B,s.yc⟩
 have asv:∀ k b,hpS k=some b->s.hp k=some b:=λk b hb=>by
  by_cases h1:100<=k
  ·rcases L7.hp k h1 with h|h
   ·have h:hpS k=none:=h;rw [h] at hb;cases hb
   ·have h:hpS k=s.hp k:=h;rw [<-h];exact hb
  ·have h2:hpS k=C.G k:=L7.glob k zO;rw [hi.ri.glob k zO,<-h2];exact hb
 have ady:∀ k b,zY k=some b->s.hp k=some b:=λk b hb=>by
  by_cases h1:k∈rs
  ·have:zY k=s.hp k:=by simp [zY,h1]
   rw [<-this];exact hb
  ·have:zY k=hpS k:=by simp [zY,h1]
   exact asv k b (this▸hb)
 have WR:∀ k,dom zY k->dom s.hp k:=λk hk=>by
  unfold dom at hk |-
  cases hb:zY k with
  | none=>exact absurd hb hk
  | some b=>rw [ady k b hb];simp
 have Ru:∀ k,dom hpS k->dom zY k:=λk hk=>by
  unfold dom at *
  by_cases h1:k∈rs
  ·exact absurd (IY k (zZ k h1)) hk
  ·simpa [zY,h1] using hk
 have afZ:rst zY rs=rst s.hp rs:=funext λk=>by
  unfold rst;by_cases h1:k∈rs
  ·simp [zY,h1]
  ·by_cases h2:k<100
   ·have e1:hpS k=C.G k:=L7.glob k h2;simp [zY,h1,h2,e1,hi.ri.glob k h2]
   ·simp [h1,h2]
 have WS:∀ k,dom (rst s.hp rs) k->dom zY k:=λk hk=>by
  rw [<-afZ] at hk;unfold dom at *
  cases hb:rst zY rs k with
  | none=>exact absurd hb hk
  | some b=>rw [iO hb];simp
 have aro:IterK P C'.G f bh s'.hp rs xs:=ny.under afZ
 have cv:GI P C' n d r s' a W:=by
  refine ⟨⟨hi.ri.size,λu=>?_,λk b hk=>⟨(hi.ri.sat k b (ady k b hk)).1,?_⟩,λk l hk hl e=>hi.ri.inj k l (WR k hk) (WR l hl) e,⟨λk=>So k\/A k,ms,⟨hX0,λk hk=>.inl hk,λj hj=>⟨.inr hj,rfl⟩⟩,λk hk=>?_,λi hd h1 hS=>?_,pZ,λD hD=>⟨(sv D hD).1,λhS=>?_,(sv D hD).2.2⟩⟩,λi hd=>?_,λk hk=>?_,λk hk hd=>hi.ri.low k hk (WR k hd)⟩,λx hx=>?_,hi.low,hi.flat,λy hy=>by have hy:C.Y=some y:=hy;rw [hY] at hy;cases hy⟩
  ·by_cases hu:u=t
   ·subst hu
    right
    have e:=(hi.ri.rel u).resolve_left wO;refine ⟨by simpa [s'] using e.1,?_⟩;have e2:s'.ts u=.func (.func f) #[] bh:=by simp [s',hg]
    rw [e2];refine ⟨zS,λx hx=>?_⟩;have:=ny.cids x hx;exact sT WS ((jF this.1).1 this.2)
   ·have e2:s'.ts u=fX u:=by simp [s',hu]
    rw [e2];rcases L7.ts u with h|⟨h,iZ⟩
    ·exact .inl h
    ·have h:fX u=s.ts u:=h;rcases hi.ri.rel u with h3|h3
     ·exact .inl (h.trans h3)
     ·exact .inr ⟨by rw [h];exact h3.1,il Ru iZ⟩
  ·by_cases h1:k∈rs
   ·have mN:rst s.hp rs k=some b:=by
     have:s.hp k=some b:=ady k b hk;simp [rst,h1,this]
    exact Blk.ids_mono WS (ny.closed k b mN)
   ·have mN:hpS k=some b:=by
     have:zY k=hpS k:=by simp [zY,h1]
     exact this▸hk
    exact Blk.ids_mono Ru (L7.ids k b mN)
  ·rcases hk with hk|⟨i,jU,_,rfl⟩
   ·exact MQ k hk
   ·exact hi.ri.lt (has i jU).2
  ·rcases hS with hS|⟨i',jU,hi2,e⟩
   ·exact sx i (WR i hd) h1 hS
   ·have:i'=i:=hi.ri.inj i' i (has i' jU).2 (WR i hd) e;subst this;have tV:zY i'≠none:=hd;have:zY i'=hpS i':=by simp [zY,hi2]
    exact tV (this.trans (IY i' jU))
  ·rcases hS with hS|⟨i,jU,_,e⟩
   ·exact (sv D hD).2.1 hS
   ·exact hi.ri.ne_mark (has i jU).2 (sv D hD).1 e
  ·have fq:i∉gr:=λhm=>by
    have:(if i∈gr then none else C.hp0 i)≠none:=hd;simp [hm] at this
   have jR:dom C.hp0 i:=by
    have:(if i∈gr then none else C.hp0 i)≠none:=hd;rw [ab fq] at this;exact this
   refine ⟨?_,(hi.ri.keep i jR).2⟩;by_cases h1:100<=i
   ·have hk:=L7.keep i h1 hd;refine Ru i ?_;have h2:=(hi.ri.keep i jR).1;unfold dom at *
    have hk:hpS i=s.hp i:=hk;rw [hk];exact h2
   ·have h2:=(hi.ri.keep i jR).1;refine Ru i ?_;have e1:hpS i=C.G i:=L7.glob i zO;unfold dom at *
    rw [e1,<-hi.ri.glob i zO];exact h2
  ·have h1:k∉rs:=λhm=>Xn k hk (zZ k hm);have:zY k=hpS k:=by simp [zY,h1]
   show zY k=C.G k;rw [this];exact L7.glob k hk
  ·cases hb:zY x with
   | none=>exact hb
   | some b =>
    have h1:s.hp x=none:=hi.free x hx;rw [ady x b hb] at h1;cases h1
 have hw2:Weak C' s' ⟨fX,hpS,B,s'.yc⟩:=by
  refine ⟨λu=>?_,λk hk=>?_,L7.ids,λk h1 hd=>?_,L7.glob,rfl,L7.free,L7.low⟩
  ·rcases L7.ts u with h|⟨h,iZ⟩
   ·exact .inl h
   ·refine .inr ⟨?_,iZ⟩;by_cases hu:u=t
    ·subst hu;simpa [s'] using h
    ·simp [s',hu]
  ·by_cases h1:k∈rs
   ·exact .inl (IY k (zZ k h1))
   ·exact .inr (by simp [s',zY,h1])
  ·have fq:k∉gr:=λhm=>by
    have:(if k∈gr then none else C.hp0 k)≠none:=hd;simp [hm] at this
   have h2:k∉rs:=λhm=>fq (zZ k hm);show hpS k=zY k;simp [zY,h2]
 have main:=UJ (P:=P) (C:=C') (n:=n) (d:=d) (s:=s') (K:=λe s2=>(∀ k∈gr,s2.hp k=none/\k<s2.B)/\(∀ u,s2.ts u=fX u)/\s2.yc=s.yc/\K e ⟨I2,eW gr s.hp s2.hp,s2.B,s.yc⟩) (t:=t) (ps:=ps) (assign:=assign) (body:=body) (f:=f) (bh:=bh) (rs:=rs) (xs:=xs) (by simp [s',hg]) aro yH JY fX I B N hN hw2 h0
  (λk hk=>⟨IY k (zZ k hk),by have:=(has k (zZ k hk)).2;unfold dom at *;simpa [s',zY,hk] using this⟩)
  (λi x hq h1 h2 h3 C1 l h4 h5 h6=>iu (rounds i x hq h1 h2 h3 C1 l h4 h5 h6) λe s1 hs=>by
   cases e with
   | normal =>
    intro C2 q1 q2 q3 q4;refine iu (hs C2 q1 q2 q3 q4) λe s2 pV=>?_
    cases e with
    | normal =>
     obtain ⟨ρ,y8,RS,hr2⟩:=pV;exact ⟨ρ,y8,RS C' rfl rfl,hr2⟩
    | _=>exact pV.elim
   | _=>exact hs.elim)
  (fin.imp (λ⟨h1,h2⟩=>⟨h1,λhq hI=>⟨(h2 hq hI).1,λ_=>rfl,rfl,(h2 hq hI).2⟩⟩) (λ⟨x,h1,h2⟩=>⟨x,h1,λhq hI C1 l q1 q2 q3=>iu (h2 hq hI C1 l q1 q2 q3) λe s1 hs=>by
   cases e with
   | normal =>
    intro C2 p1 p2 p3 p4;exact iu (hs C2 p1 p2 p3 p4) λe s2 pV=>⟨pV.1,pV.2.1,pV.2.2.1,λ_=>rfl,rfl,pV.2.2.2⟩
   | _=>exact hs.elim⟩))
  (by show C.Y≠some .still;rw [hY];simp) cv
 refine wpIn_mono main ?_;rintro e a' W' ⟨s2,r2,⟨⟨fq,amc,hyc,hK⟩,gi⟩,htm,hkB,hnc⟩;obtain ⟨S2,m2,⟨hX2,abA,hA2⟩,HM,aeE,alv,agR⟩:=gi.ri.ext;let r3:Nat->Nat:=λk=>if k∈gr then r k else r2 k
 have LC:∀ k,k∈gr->r3 k=r k:=λk hk=>by simp [r3,hk]
 have Iu:∀ k,dom s2.hp k->r3 k=r2 k:=λk hk=>by
  have:k∉gr:=λhm=>hk (fq k hm).1;simp [r3,this]
 have WQ:∀ k,k∈gr->dom (eW gr s.hp s2.hp) k:=λk hk=>by
  have:=(has k hk).2;unfold dom eW at *;simpa [hk] using this
 have Rt:∀ k,dom s2.hp k->dom (eW gr s.hp s2.hp) k:=λk hk=>by
  have h1:k∉gr:=λhm=>hk (fq k hm).1;unfold dom eW at *;simpa [h1] using hk
 have al2:∀ k b,eW gr s.hp s2.hp k=some b->(k∈gr/\s.hp k=some b)\/(k∉gr/\s2.hp k=some b):=λk b hb=>by
  unfold eW at hb;by_cases h1:k∈gr
  ·simp only [h1,aU] at hb;exact .inl ⟨h1,hb⟩
  ·simp only [h1,bY] at hb;exact .inr ⟨h1,hb⟩
 have abi:∀ k,dom (eW gr s.hp s2.hp) k->k∈gr\/(k∉gr/\dom s2.hp k):=λk hk=>by
  unfold dom at hk
  cases hb:eW gr s.hp s2.hp k with
  | none=>exact absurd hb hk
  | some b=>exact (al2 k b hb).imp (λh=>h.1) (λh=>⟨h.1,by unfold dom;rw [h.2];simp⟩)
 refine ⟨⟨I2,eW gr s.hp s2.hp,s2.B,s.yc⟩,r3,hK,⟨⟨gi.ri.size,λu=>?_,λk b hk=>?_,λk l hk hl e=>?_,⟨So,m2,?_,λk hk=>HM k (abA k hk),λi hd h1 hS=>?_,alv,λD hD=>⟨(agR D hD).1,λhS=>(agR D hD).2.1 (abA D hS),(agR D hD).2.2⟩⟩,λi hd=>?_,λk hk=>?_,λk hk hd=>?_⟩,λx hx=>?_,gi.low,hi.flat,hi.rounds⟩⟩
 ·rcases hF u with h|⟨h,iZ⟩
  ·rcases gi.ri.rel u with h3|h3
   ·exact .inl (h.trans ((amc u).symm.trans h3))
   ·rw [amc u] at h3
    exact .inr ⟨by
     have e1:a'.tmps.getD u undef=ren r3 (I2 u):=by rw [h,jg Iu h3.2];exact h3.1
     exact e1,by
     have e2:aN (dom (eW gr s.hp s2.hp)) (I2 u):=by rw [h];exact il Rt h3.2
     exact e2⟩
  ·rcases hi.ri.rel u with h3|h3
   ·exact .inl (h.trans h3)
   ·exact .inr ⟨by
     have e1:a'.tmps.getD u undef=ren r3 (I2 u):=by rw [h,htm,jg LC iZ];exact h3.1
     exact e1,by
     have e2:aN (dom (eW gr s.hp s2.hp)) (I2 u):=by rw [h];exact il WQ iZ
     exact e2⟩
 ·rcases al2 k b hk with ⟨h1,h2⟩|⟨h1,h2⟩
  ·have iZ:=mM k h1 b h2
   have dQ:∀ q,q<100->dom C.G q->dom s2.hp q/\dom s.hp q:=λq h5 h6=>by
    have e1:s2.hp q=C.G q:=gi.ri.glob q h5;have e2:s.hp q=C.G q:=hi.ri.glob q h5;unfold dom at *
    rw [e1,e2];exact ⟨h6,h6⟩
   have r3Q:∀ q,(q∈gr\/(q<100/\dom C.G q))->r3 q=r q:=λq hq=>hq.elim (LC q) λ⟨h5,h6⟩=>by
    obtain ⟨d2,d1⟩:=dQ q h5 h6;rw [Iu q d2,gi.ri.low q h5 d2,hi.ri.low q h5 d1]
   refine ⟨?_,Blk.ids_mono (λq hq=>hq.elim (WQ q) λ⟨h5,h6⟩=>Rt q (dQ q h5 h6).1) iZ⟩;rw [LC k h1,Blk.obj_congr r3Q iZ,<-(hi.ri.sat k b h2).1];by_cases h3:k∈rs
   ·refine hkB k ?_;show dom (rst zY rs) k;rw [afZ];unfold dom rst;simp [h3,h2]
   ·exact (hA2 (r k) ⟨k,h1,h3,rfl⟩).2
  ·have hd:dom s2.hp k:=by unfold dom;rw [h2];simp
   have h3:=gi.ri.sat k b h2;refine ⟨?_,Blk.ids_mono Rt h3.2⟩;rw [Iu k hd,Blk.obj_congr Iu h3.2];exact h3.1
 ·have mixed:∀ k l,k∈gr->l∉gr->dom s2.hp l->r k=r2 l->False:=λk l hk hl hd e=>by
   by_cases h3:k∈rs
   ·exact hnc l hd k h3 (has k hk).1 e.symm
   ·by_cases h1:100<=l
    ·exact aeE l hd h1 (e▸(hA2 (r k) ⟨k,hk,h3,rfl⟩).1)
    ·have e1:s2.hp l=C.G l:=gi.ri.glob l zO;have e2:s.hp l=C.G l:=hi.ri.glob l zO;have yb:dom s.hp l:=by unfold dom at *;rw [e2,<-e1];exact hd
     have e3:r2 l=l:=gi.ri.low l zO hd;have e4:r l=l:=hi.ri.low l zO yb;have:k=l:=hi.ri.inj k l (has k hk).2 yb (by rw [e,e3,e4]);exact hl (this▸hk)
  rcases abi k hk with h1|⟨h1,RG⟩<;>rcases abi l hl with h2|⟨h2,yb⟩
  ·rw [LC k h1,LC l h2] at e;exact hi.ri.inj k l (has k h1).2 (has l h2).2 e
  ·rw [LC k h1,Iu l yb] at e;exact (mixed k l h1 h2 yb e).elim
  ·rw [Iu k RG,LC l h2] at e;exact (mixed l k h2 h1 RG e.symm).elim
  ·rw [Iu k RG,Iu l yb] at e;exact gi.ri.inj k l RG yb e
 ·have:E'.X s2.yc S2 W':=⟨hX2,abA,hA2⟩
  show C.E.X s.yc So W';rw [<-hyc];exact hX2
 ·rcases abi i hd with h2|⟨h2,yb⟩
  ·rw [LC i h2] at hS;exact sx i (has i h2).2 h1 hS
  ·rw [Iu i yb] at hS;exact aeE i yb h1 (abA _ hS)
 ·by_cases h1:i∈gr
  ·exact ⟨WQ i h1,(LC i h1).trans (hi.ri.keep i hd).2⟩
  ·have tV:dom C'.hp0 i:=by
    show (if i∈gr then none else C.hp0 i)≠none;rw [ab h1];exact hd
   have hk:dom s2.hp i/\r2 i=C.r0 i:=gi.ri.keep i tV;exact ⟨Rt i hk.1,(Iu i hk.1).trans hk.2⟩
 ·have h1:=Xn k hk;show eW gr s.hp s2.hp k=C.G k;unfold eW;rw [ab h1];exact gi.ri.glob k hk
 ·have h1:=Xn k hk;rcases abi k hd with h2|⟨_,yb⟩
  ·exact absurd h2 h1
  ·rw [Iu k yb];exact gi.ri.low k hk yb
 ·have hx:s2.B<=x:=hx;have h1:x∉gr:=λhm=>by have:=(fq x hm).2;omega
  show eW gr s.hp s2.hp x=none;unfold eW;rw [ab h1];exact gi.free x hx
theorem Hg {t:Tmp} {ps:Array Tmp} {assign body:Code} {f:FuncId} {bh:bV} {rs:List Nat} {xs:List (Array Value)} (gr:List Nat) (hY:C.Y=none) (hg:s.ts t=.func (.func f) #[] bh) (ny:IterK P C.G f bh s.hp rs xs)
  (yH:∀ x∈xs,x.size=ps.size/\∀ v∈x,bz v=true) (JY:∀ p∈ps,p<n) (fX I2:eM) (I:Nat->Hp->Prop) {hpS:Hp} (B:Nat) (N:Nat) (hN:N<=xs.length)
  (zZ:∀ k∈rs,k∈gr) (has:∀ k∈gr,100<=k/\dom s.hp k) (mM:∀ k∈gr,∀ b,s.hp k=some b->b.ids λq=>q∈gr\/(q<100/\dom C.G q))
  (hw:∀ C0:Ctx,C0.G=C.G->(C0.hp0=λk=>if k∈gr then none else C.hp0 k)->Weak C0 s ⟨fX,hpS,B,s.yc⟩) (h0:I 0 hpS) (IY:∀ k∈gr,hpS k=none)
  (hF:∀ u,I2 u=fX u\/(I2 u=s.ts u/\aN (λq=>q∈gr) (s.ts u)))
  (rounds:∀ i x hq,i<N->xs[i]? = some x->I i hq->∀ (C1:Ctx) (l:Nat),C1.G=C.G->C1.hp0=hq->C1.Y=none->GW P C1 n [] (some l) assign ⟨bC ps.toList x.toList fX,hq,B,0⟩
   (dU (λs1=>∀ C2:Ctx,C2.G=C.G->C2.hp0=hq->C2.Y=none->GW P C2 n [] (some l) body s1 (dU (λs2=>∃ ρ y8,(∀ C0:Ctx,C0.G=C.G->(C0.hp0=λk=>if k∈gr then none else C.hp0 k)->WeakR C0 ρ ⟨fX,s2.hp,s2.B,s.yc⟩ ⟨fX,y8,B,s.yc⟩)/\I (i+1) y8) (λ_ _=>False))) (λ_ _=>False)))
  (fin:(N=xs.length/\∀ hq,I N hq->(∀ k∈gr,hq k=none/\k<B)/\K .normal ⟨I2,eW gr s.hp hq,B,s.yc⟩)\/∃ x,xs[N]? = some x/\∀ hq,I N hq->∀ (C1:Ctx) (l:Nat),C1.G=C.G->C1.hp0=hq->C1.Y=none->GW P C1 n [] (some l) assign ⟨bC ps.toList x.toList fX,hq,B,0⟩
    (dU (λs1=>∀ C2:Ctx,C2.G=C.G->C2.hp0=hq->C2.Y=none->GW P C2 n [] (some l) body s1 (λe s2=>(eV e).isSome=true/\(∀ t,aN (dom s2.hp) (fX t))/\(∀ k∈gr,s2.hp k=none/\k<s2.B)/\K e ⟨I2,eW gr s.hp s2.hp,s2.B,s.yc⟩)) (λ_ _=>False))) :
  GW P C n d none (.rangeFunc (.tmp t) ps assign body) s K :=
 Hh gr hY hg ny yH JY fX I2 I B N hN zZ has mM hw h0 IY hF (λi x hq h1 h2 h3 C1 l h4 h5 h6=>iu (rounds i x hq h1 h2 h3 C1 l h4 h5 h6) λe s1 h=>by
   cases e<;>first|exact λC2 k1 k2 k3 _=>h C2 k1 k2 k3|exact h)
  (fin.imp id λ⟨x,hx,h⟩=>⟨x,hx,λhq h3 C1 l h4 h5 h6=>iu (h hq h3 C1 l h4 h5 h6) λe s1 h=>by
   cases e<;>first|exact λC2 k1 k2 k3 _=>h C2 k1 k2 k3|exact h⟩)
theorem AN {t:Tmp} {ps:Array Tmp} {assign body:Code} {f:FuncId} {bh:bV} {rs:List Nat} {xs:List (Array Value)} (gr:List Nat) (hY:C.Y=none) (hg:s.ts t=.func (.func f) #[] bh) (ny:IterK P C.G f bh s.hp rs xs)
  (yH:∀ x∈xs,x.size=ps.size/\∀ v∈x,bz v=true) (JY:∀ p∈ps,p<n) (fX I2:eM) (I:Nat->Hp->Prop) {hpS:Hp} (B:Nat) (N:Nat) (hN:N<=xs.length)
  (zZ:∀ k∈rs,k∈gr) (has:∀ k∈gr,100<=k/\dom s.hp k) (mM:∀ k∈gr,∀ b,s.hp k=some b->b.ids λq=>q∈gr)
  (hw:∀ C0:Ctx,C0.G=C.G->(C0.hp0=λk=>if k∈gr then none else C.hp0 k)->Weak C0 s ⟨fX,hpS,B,s.yc⟩) (h0:I 0 hpS) (IY:∀ k∈gr,hpS k=none)
  (hF:∀ u,I2 u=fX u\/(I2 u=s.ts u/\aN (λq=>q∈gr) (s.ts u)))
  (rounds:∀ i x hq,i<N->xs[i]? = some x->I i hq->∀ (C1:Ctx) (l:Nat),C1.G=C.G->C1.hp0=hq->C1.Y=none->GW P C1 n [] (some l) assign ⟨bC ps.toList x.toList fX,hq,B,0⟩
   (dU (λs1=>∀ C2:Ctx,C2.G=C.G->C2.hp0=hq->C2.Y=none->GW P C2 n [] (some l) body s1 (dU (λs2=>∃ ρ y8,(∀ C0:Ctx,C0.G=C.G->(C0.hp0=λk=>if k∈gr then none else C.hp0 k)->WeakR C0 ρ ⟨fX,s2.hp,s2.B,s.yc⟩ ⟨fX,y8,B,s.yc⟩)/\I (i+1) y8) (λ_ _=>False))) (λ_ _=>False)))
  (fin:(N=xs.length/\∀ hq,I N hq->(∀ k∈gr,hq k=none/\k<B)/\K .normal ⟨I2,eW gr s.hp hq,B,s.yc⟩)\/∃ x,xs[N]? = some x/\∀ hq,I N hq->∀ (C1:Ctx) (l:Nat),C1.G=C.G->C1.hp0=hq->C1.Y=none->GW P C1 n [] (some l) assign ⟨bC ps.toList x.toList fX,hq,B,0⟩
    (dU (λs1=>∀ C2:Ctx,C2.G=C.G->C2.hp0=hq->C2.Y=none->GW P C2 n [] (some l) body s1 (λe s2=>(eV e).isSome=true/\(∀ t,aN (dom s2.hp) (fX t))/\(∀ k∈gr,s2.hp k=none/\k<s2.B)/\K e ⟨I2,eW gr s.hp s2.hp,s2.B,s.yc⟩)) (λ_ _=>False))) :
  GW P C n d none (.rangeFunc (.tmp t) ps assign body) s K:=by
 refine Hg (f:=f) (rs:=rs) (xs:=xs) (bh:=bh) gr hY hg ny yH JY fX I2 I B N hN zZ has (λk hk b hb=>Blk.ids_mono (λq hq=>.inl hq) (mM k hk b hb)) hw h0 IY hF rounds fin
section
variable {P:Program} {G:Hp}
theorem IterK.rn {f:FuncId} {bh:bV} {hp db:Hp} {rs:List Nat} {xs:List (Array Value)} (ρ:cI) (cK:ct G) (hG:∀ k,k<100->hp k=G k) (h:Rn ρ hp db rs) (hi:IterK P G f bh hp rs xs):IterK P G f (bh.map (aA ρ)) db (rs.map ρ) xs:=by
 have tk:∀ x,da x=true->da (aA ρ x)=true:=λx hx=>by
  exact Ew
 have bflat:∀ k b,k<100->hp k=some b->b.rn ρ=b:=λk b hk hb=>by
  exact wQ
 have back:∀ k b,rst db (rs.map ρ) k=some b->∃ q c,rst hp rs q=some c/\ρ q=k/\b=c.rn ρ:=λk b hb=>by
  exact FN
 refine ⟨hi.enter,λx hx=>?_,λk b hb=>?_,λE l stop r S W fM hZ gu ba hR hX hS kW=>?_⟩
 ·exact Fz
 ·exact Fx
 ·have dS:(bh.map (aA ρ)).map (ren r)=bh.map (ren λk=>r (ρ k)):=by
   exact Ga
  rw [dS];refine (hi.run E l stop (λk=>r (ρ k)) S W fM (λk b hk=>⟨?_,hi.closed k b hk⟩) (λk l hk hl e=>?_) (λk hk hd=>?_) hR hX hS (λi hd h1=>?_)).mono (λ_ _ hh=>⟨hh.1,hh.2.1,λk hk=>?_⟩)
  ·exact CU
  ·exact FL
  ·exact D6
  ·exact Dq
  ·unfold dom at hk
   cases hb:rst db (rs.map ρ) k with
   | none=>exact absurd hb hk
   | some b =>
    obtain ⟨q,c,h1,h2,_⟩:=back k b hb;rw [<-h2];exact hh.2.2 q (by unfold dom;rw [h1];simp)
end
end
theorem Gj {p:Prop} (h:p:=by
 simp only [bE] at hp1;subst hp1;show W.heap.size<=upd r (base+8*k) W.heap.size (base+8*k);rw [bj];exact aG _):p:=h
section
variable {P:Program}
theorem GH (w:World) (t ty e:TypeId) (i:TypeInfo) (ht:P.underlying t=some (.slice e)) (hi:P.info? e=some i) (base q:OV) (sl cap c:Nat) (h:sl<=cap) :
  (Builtin.append_ #[t,t] ty #[.slice base sl cap,.slice q 0 c]).run P w=.ok (.slice base sl cap) w:=by
 have hf:(Builtin.firstCells i.size 0 (.slice q 0 c)).run P w=.ok #[] w:=by
  cases q with
  | none=>rfl
  | some a=>exact run_firstCells_some (P:=P) w i.size 0 a 0 c [] zS zS
 cases base with
 | none=>simp [Builtin.append_,run_underlying ht,sizeOf,typeInfo,hi,Builtin.lenOf,h,hf]
 | some a=>simp [Builtin.append_,run_underlying ht,sizeOf,typeInfo,hi,Builtin.lenOf,h,hf,storeCells]
theorem Ky {o:Oper} {a:Act} {W:World} {R Rp:Value->World->Prop} {x y:Operand} {t e:TypeId} {i:TypeInfo} {z:Value} {base:OV} {g2 ao m m':Nat} {nw:List Value}
  (ho:o.op=.call { callee:=.builtin .append,args:=#[x,y],argTypes:=#[t,t] }) (ht:P.underlying t=some (.slice e)) (hi:P.info? e=some i) (hz:i.zero=some z)
  (hx:a.eval x=.slice base 0 0) (hy:a.eval y=.slice (some ⟨g2,ao,none⟩) m m') (hl:nw.length=m*i.size) (hn:∀ j u,nw[j]? = some u->W.cell? ((⟨g2,ao,none⟩:Addr).add j)=some u)
  (hm:0<m) (ju:m<=maxLen) (mU:m*i.bytes<=140737488355328)
  (grow:∀ cW,m<=cW->R (.slice (some ⟨W.heap.size,0,none⟩) m cW) (W.drew.alloc (.cells (nw.toArray++Builtin.zeroCells z.cells (cW - m)) e))):pW P o a W R Rp:=by
 unfold pW
 cases base with
 | none =>
  have h:=run_append_nil (P:=P) W t o.type e i z ht hi hz ⟨g2,ao,none⟩ m m' nw hl hn hm wc zO;simp only [execOp,ho,resolve,aY,cx,bD,invoke,builtin,ff,bJ,dt,hx,hy,h];exact grow _ (grownCap_ge _ _ _ _)
 | some b =>
  have h:=run_append_grow (P:=P) W t o.type e i z ht hi hz b 0 0 [] zS zS ⟨g2,ao,none⟩ m m' nw hl hn zO wc (by simpa using growslice_fits (need:=0+m) (old:=0) zO (by simpa using mU));simp only [ar] at h;simp only [execOp,ho,resolve,aY,cx,bD,invoke,builtin,ff,bJ,dt,hx,hy,h];have:=grow _ (grownCap_ge W m 0 e);exact cZ
end
section
variable {P:Program} {C:Ctx} {n:Nat} {d:List Deferred} {ro:Option Nat} {s:GS} {K:kV}
theorem Rb {ops:Array Oper} {o:Oper} {post:og} {base k:Nat} {ts:eM} {hp:Hp} {yc:Nat} {tx ty:Tmp} {t e:TypeId} {sz BN:Nat} {z:Value} {p:OV} {j ao m m':Nat} {b2:Blk} {nw:List Value} (hg:o.guard=none) (hd:∀ dd,o.dst=some dd->dd<n)
  (ho:o.op=.call { callee:=.builtin .append,args:=#[.tmp tx,.tmp ty],argTypes:=#[t,t] }) (ht:P.underlying t=some (.slice e)) (hs:bA P e=some sz) (hz:cT P e=some z) (L4:tP P e=some BN)
  (hx:ts tx=.slice p 0 0) (hy:ts ty=.slice (some ⟨j,ao,none⟩) m m') (mU:hp j=some b2) (Lb:∀ q u,nw[q]? = some u->b2.c[ao+q]? = some u) (HO:∀ x∈nw,bP x=true) (y9:∀ q,∀ x∈Builtin.zeroCells z.cells q,bP x=true)
  (L6:0<m) (hm:m*sz=nw.length) (BU:m<=maxLen) (pV:m*BN<=140737488355328)
  (grow:∀ cW,m<=cW->GL P C n d ro ops base (k+1) post (dk ts o.dst (.slice (some ⟨base+8*k,0,none⟩) m cW)) (upd hp (base+8*k) (some ⟨(nw++(Builtin.zeroCells z.cells (cW - m)).toList).toArray,.ty e⟩)) yc K) (JZ:b2.T.rd=true:=by first|rfl|assumption):GL P C n d ro ops base k (o::post) ts hp yc K:=by
 intro r a W hi hf hb hG hR;unfold bA at hs;unfold cT at hz;unfold tP at L4
 cases hii:P.info? e with
 | none=>rw [hii] at hs;cases hs
 | some i =>
  rw [hii] at hs hz L4;simp only [gL,bg,lC] at hs hz L4;subst hs;subst L4;refine wpListIn_plain hg λK' JS=>?_
  have ex:∃ p',a.eval (.tmp tx)=.slice p' 0 0:=by
   have:=(hi.rel tx).resolve_left wu;rw [hx] at this
   cases p with
   | none=>exact ⟨none,this.1⟩
   | some q=>exact ⟨_,this.1⟩
  obtain ⟨p',ex⟩:=ex
  have ey:a.eval (.tmp ty)=.slice (some ⟨r j,ao,none⟩) m m':=by
   have:=(hi.rel ty).resolve_left v7;rw [hy] at this;exact this.1
  have hn:∀ q u,nw[q]? = some u->W.cell? ((⟨r j,ao,none⟩:Addr).add q)=some u:=λq u hq=>by
   rw [lG];exact Mt (hi.sat j b2 mU).1 (Lb q u hq) (HO u (qg hq)) JZ
  have mZ:hp (base+8*k)=none:=hf _ (aG _);refine jI iR (Ky (R:=λu W'=>wpListIn (Fw P ro) 0 P ops _ post (a.put o.dst u) W') (Rp:=λ_ _=>False) ho ht hii hz ex ey hm.symm hn L6 BU pV (λcW dS=>?_)) (λu W' h=>JS _ _ h) (λpv W' h=>h.elim)
  have hff:∀ x∈(nw++(Builtin.zeroCells z.cells (cW - m)).toList).toArray,bP x=true:=λx hx=>by
   simp only [fz,cN] at hx;rcases hx with hx|hx
   ·exact HO x hx
   ·exact y9 _ x (by simpa using hx)
  have BS:¬dom hp (base+8*k):=by unfold dom;simp [mZ]
  have IZ:∀ q,dom hp q->upd r (base+8*k) W.heap.size q=r q:=λq hq=>aj _ _ (λe=>BS (e▸hq));have hv:(Value.slice (some ⟨W.heap.size,0,none⟩) m cW)=ren (upd r (base+8*k) W.heap.size) (.slice (some ⟨base+8*k,0,none⟩) m cW):=wH
  have ec:nw.toArray++Builtin.zeroCells z.cells (cW - m)=(nw++(Builtin.zeroCells z.cells (cW - m)).toList).toArray:=by
   rw [<-u9,nR]
  rw [hv,ec];refine grow cW dS (upd r (base+8*k) W.heap.size) _ _ (hi.drew.after (e:=⟨.slice (some ⟨base+8*k,0,none⟩) m cW,[],[],[(base+8*k,⟨_,.ty e⟩)],none,false⟩) hd IZ dD ⟨rfl,rfl,rfl,rF,λq hq _=>?_,λp hp1=>?_,λp hp1=>?_,by simp⟩ ah (by simp [ak,mZ];omega)) (λx tn=>?_) hb hG hR
  ·exact lF _ _ _ hq
  ·simp only [bw,bE] at hp1;subst hp1;refine ⟨?_,Blk.flat_ids hff⟩;rw [Blk.obj_flat hff];show (W.drew.alloc _).heap[upd r (base+8*k) W.heap.size (base+8*k)]? = _;rw [bj];exact heap_alloc_new W.drew _
  ·exact Gj
  ·exact xF
theorem KF {ops:Array Oper} {o:Oper} {post:og} {base k:Nat} {ts:eM} {hp:Hp} {yc:Nat} {tx ty:Tmp} {t e:TypeId} {sz:Nat} {p q:Option (Nat×Nat)} {sl cap c:Nat} (hg:o.guard=none) (hd:∀ dd,o.dst=some dd->dd<n)
  (ho:o.op=.call { callee:=.builtin .append,args:=#[.tmp tx,.tmp ty],argTypes:=#[t,t] }) (ht:P.underlying t=some (.slice e)) (hs:bA P e=some sz)
  (hx:ts tx=.slice (p.map λp=>⟨p.1,p.2,none⟩) sl cap) (hy:ts ty=.slice (q.map λp=>⟨p.1,p.2,none⟩) 0 c) (M5:sl<=cap)
  (h:GL P C n d ro ops base (k+1) post (dk ts o.dst (ts tx)) hp yc K):GL P C n d ro ops base k (o::post) ts hp yc K:=by
 intro r a W hi hf hb hG hR;unfold bA at hs
 cases hii:P.info? e with
 | none=>rw [hii] at hs;cases hs
 | some i =>
  refine wpListIn_plain hg λK' JS=>?_;have hjx:ts tx≠eY:=wu;have ex0:=(hi.rel tx).resolve_left hjx
  have ex:∃ p',a.eval (.tmp tx)=.slice p' sl cap:=by
   have:=ex0.1;rw [hx] at this
   cases p with
   | none=>exact ⟨none,this⟩
   | some q=>exact ⟨_,this⟩
  have ey:∃ p',a.eval (.tmp ty)=.slice p' 0 c:=by
   have:=(hi.rel ty).resolve_left v7;rw [hy] at this
   cases q with
   | none=>exact ⟨none,this.1⟩
   | some q=>exact ⟨_,this.1⟩
  obtain ⟨p',ex⟩:=ex;obtain ⟨q',ey⟩:=ey;have eE:=GH (P:=P) W t o.type e i ht hii p' q' sl cap c M5;have RH:a.eval (.tmp tx)=ren r (ts tx):=ex0.1;refine jI iR (R:=λu W'=>u=ren r (ts tx)/\W'=W) (Rp:=λ_ _=>False) ?_ (λu W' h'=>?_) (λpv W' h=>h.elim)
  ·unfold pW;simp only [execOp,ho,resolve,aY,cx,bD,invoke,builtin,ff,bJ,dt,ex,ey,eE];rw [<-ex,RH];exact ⟨rfl,eG⟩
  ·obtain ⟨rfl,rfl⟩:=h';refine JS _ _ (h r _ _ ?_ (λx tn=>hf x zO) hb hG hR);have:=hi.after (dst:=o.dst) hd (e:=⟨ts tx,[],[],[],none,false⟩) (r':=r) (λ_ _=>rfl) (by rw [sP];exact ex0.2) ⟨rfl,rfl,rfl,aG _,λ_ _ _=>rfl,zS,zS,zS⟩ ah ah;exact cZ
end
abbrev dz := @Int.bmod_def
abbrev cy := @Int.emod_nonneg
abbrev cE := @Int.emod_lt_of_pos
abbrev gC := @Int.pow_pos
abbrev fy := @Int.emod_add_mul_ediv
abbrev ca := @Int.mul_assoc
abbrev fh := @Int.mul_add
abbrev cz := @Int.mul_nonneg
abbrev dh := @Int.le_of_lt
abbrev iG := @Int.mul_le_mul_of_nonneg_left
abbrev lI := @Int.mul_sub
abbrev uM := @Int.add_mul_emod_self_left
abbrev cP := @Int.emod_eq_of_lt
abbrev iD := @Int.add_mul_ediv_left
abbrev gQ := @Int.ediv_nonneg
abbrev va := @Int.ediv_lt_of_lt_mul
abbrev lE := @Bool.eq_iff_iff

@[simp] theorem OO (x:Int):IntKind.u64.wrap x=x%18446744073709551616:=by simp [IntKind.wrap,IntKind.bits,IntKind.signed]
@[simp] theorem an3 (x:Int):IntKind.i64.wrap x=Int.bmod x 18446744073709551616:=by
 rw [dz];simp only [IntKind.wrap,IntKind.bits,IntKind.signed];simp;split<;>split<;>omega
@[simp] theorem akL:IntKind.u64.bits=64:=rfl
@[simp] theorem akK:IntKind.i64.bits=64:=rfl

def wi (z:Int) (k:Nat):Int:=z / 2^(64*k)%18446744073709551616
def di (z:Int) (k:Nat):Int:=z / 2^(32*k)%4294967296
def car (z y c:Int) (i:Nat):Int:=(z%2^(32*i)+y%2^(32*i)+c) / 2^(32*i)

theorem eC (z:Int) (k:Nat):0<=wi z k:=cy _ zO
theorem fi (z:Int) (k:Nat):wi z k<18446744073709551616:=cE _ zO
theorem px (i:Nat):(0:Int)<2^(32*i):=gC zD

theorem ve (z M B:Int) (hM:0<M) (hB:0<B):z%(M*B)=z%M+M*(z / M%B):=by
 have h1:=fy z M;have h2:=fy (z / M) B;have h3:=cy z (b:=M) zO;have h4:=cE z hM;have h5:=cy (z / M) (b:=B) zO;have h6:=cE (z / M) hB
 have e:z=(z%M+M*(z / M%B))+(M*B)*(z / M / B):=by
  have:M*B*(z / M / B)=M*(B*(z / M / B)):=ca ..;rw [this];have h7:M*(z / M)=M*(z / M%B+B*(z / M / B)):=by rw [h2]
  rw [fh] at h7;omega
 have Vx:0<=z%M+M*(z / M%B):=by
  have:=cz (dh hM) h5;omega
 have cA:z%M+M*(z / M%B)<M*B:=by
  have:M*(z / M%B)<=M*(B - 1):=iG zO (dh hM);rw [lI] at this;omega
 conv=>lhs;rw [e]
 rw [uM];exact cP Vx cA

theorem Px (z y c M:Int) (hM:0<M):(z+y+c) / M=z / M+y / M+(z%M+y%M+c) / M:=by
 have h1:=fy z M;have h2:=fy y M;have:z+y+c=(z%M+y%M+c)+M*(z / M+y / M):=by rw [fh];omega
 rw [this,iD _ _ zO];omega

theorem Ww (z y c:Int):car z y c 0=c:=by simp [car,Int.emod_one]
theorem Wv (z y c:Int) (h0:0<=c) (h1:c<=1) (i:Nat):0<=car z y c i/\car z y c i<=1:=by
 unfold car;generalize hM:(2:Int)^(32*i)=M;have hp:0<M:=hM▸px i;have h3:=cy z (b:=M) zO;have h4:=cE z hp;have h5:=cy y (b:=M) zO;have h6:=cE y hp;refine ⟨gQ zO zO,?_⟩;have:(z%M+y%M+c) / M<2:=va hp zO;omega
def sz (z:Int):Int:=Int.bmod z 115792089237316195423570985008687907853269984665640564039457584007913129639936
theorem aiE (z:Int):z%115792089237316195423570985008687907853269984665640564039457584007913129639936=wi z 0+18446744073709551616*wi z 1+340282366920938463463374607431768211456*wi z 2+6277101735386680763835789423207666416102355444464034512896*wi z 3:=by
 simp only [wi];omega
theorem weq (a b:Int):(wi a 0==wi b 0&&(wi a 1==wi b 1&&(wi a 2==wi b 2&&wi a 3==wi b 3)))=decide (sz a=sz b):=by
 rw [lE];simp only [bO,beq_iff_eq,fe];have h1:=aiE a;have h2:=aiE b
 have e:sz a=sz b↔a%115792089237316195423570985008687907853269984665640564039457584007913129639936=b%115792089237316195423570985008687907853269984665640564039457584007913129639936:=by
  unfold sz;rw [dz,dz];constructor<;>intro h
  ·split at h<;>split at h<;>omega
  ·have h:a%((115792089237316195423570985008687907853269984665640564039457584007913129639936:Nat):Int)=b%((115792089237316195423570985008687907853269984665640564039457584007913129639936:Nat):Int):=h;rw [h]
 rw [e];constructor
 ·rintro ⟨h3,h4,h5,h6⟩;rw [h1,h2,h3,h4,h5,h6]
 ·intro h;simp only [wi];refine ⟨?_,?_,?_,?_⟩<;>omega
theorem wne (a b:Int):(!wi a 0==wi b 0||(!wi a 1==wi b 1||(!wi a 2==wi b 2||!wi a 3==wi b 3)))=!decide (sz a=sz b):=by
 rw [<-weq];simp [Bool.not_and]
def i64 (n:Int):Prop:=-9223372036854775808<=n/\n<9223372036854775808
instance (n:Int):Decidable (i64 n):=by unfold i64;infer_instance
theorem Wp (x:Int):i64 (Int.bmod x 18446744073709551616):=by
 unfold i64;rw [dz];constructor<;>split<;>omega
theorem ahd (z:Int):sz (Int.bmod (wi z 0) 18446744073709551616)=sz z↔i64 (sz z):=by
 simp only [wi,sz,i64,dz];constructor
 ·intro h;constructor<;>(repeat' split at h)<;>(repeat' split)<;>omega
 ·rintro ⟨h1,h2⟩;(repeat' split at h1)<;>(repeat' split)<;>omega
theorem ab6 (z:Int) (h:i64 (sz z)):Int.bmod (wi z 0) 18446744073709551616=sz z:=by
 simp only [wi,sz,i64,dz] at *
 obtain ⟨h1,h2⟩:=h
 (repeat' split at h1)<;>(repeat' split)<;>omega
def gG (a b:Int):Int:=if a<b then -1 else if a=b then 0 else 1
theorem mj {p:Prop} (h:p:=by rw [e];exact hm.closed cK):p:=h
theorem lW {p:Prop} (h:p:=by rw [e];exact hm.free cK hB):p:=h
theorem rP {p:Prop} (h:p:=by rw [e];exact h):p:=h
theorem vX {p:Prop} (h:p:=by rw [e];exact λx hx=>il (λq hq=>hm.sub q hq) (ha x hx)):p:=h
theorem CM {p:Prop} (h:p:=by rw [e];exact il (λq hq=>hm.sub q hq) hv):p:=h
theorem Cn {p:Prop} (h:p:=by rw [e];exact Blk.ids_mono (λq hq=>hm.sub q hq) (hw p hp).2):p:=h
theorem FT {p:Prop} (h:p:=by
 cases hb:hpL G m x with
 | none=>rfl
 | some b =>
  rcases cB hb with h1|h1
  ·have:=(h.big _ h1).2;simp at this;omega
  ·have:=(cK x b h1).1;omega):p:=h
theorem C6 {p:Prop} (h:p:=by
 obtain ⟨p,hp,rfl⟩:=aI.1 hk;have:=(hw p hp).1;obtain ⟨q,hq,e1⟩:=aI.1 this;exact ⟨this,hm.sub _ this,by rw [<-e1];exact (hm.big q hq).1⟩):p:=h
theorem Dk {p:Prop} (h:p:=by
 have e:=LOk.rst (m:=m) cK;exact XR (B:=B) (v:=v) cK hm.low hf hb eP (by rw [e];exact λx hx=>⟨(ha x hx).1,il (λq hq=>hm.sub q hq) (ha x hx).2⟩) mj hn hB lW rP):p:=h
theorem F4 {p:Prop} (h:p:=by
 obtain ⟨p,hp,rfl⟩:=aI.1 hk;have:=(f2 p hp).1;exact ⟨zO,λhd=>by have:=cA _ hd;omega⟩):p:=h
theorem Dp {p:Prop} (h:p:=by
 rw [e] at h2 |-;refine iu (h C h1 h2 h3) λe s=>λ⟨q1,q2,v,ns,ρ,q3,q4,q5,q6,q7,q8⟩=>⟨q1,q2,v,ns,ρ,q3,λk hk=>q4 k (cA k hk),λp hp=>?_,q6,q7,q8⟩
 have:=q5 p hp;exact ⟨λhd=>by have:=cA _ hd;omega,zO⟩):p:=h
theorem FW {p:Prop} (h:p:=by
 refine ⟨λk hk=>⟨ba k hk,by rw [hp0 k hk,hm.low k hk]⟩,λk hk _=>?_,λk hk _=>?_,λk hk l hl _ _ e=>?_⟩
 ·obtain ⟨p,hp,rfl⟩:=aI.1 hk;exact (m9 p hp).1
 ·obtain ⟨p,hp,rfl⟩:=aI.1 hk;exact ⟨p.2,LOk.at hm.one p hp,(m9 p hp).2⟩
 ·exact gu k hk l hl e):p:=h
def Blk.fx (b:Blk):Prop:=match b.T with
 | .ty _=>∀ x∈b.c,bP x=true
 | .raw _ _=>True
 | .mp=>False
theorem Blk.fx_ids {b:Blk} (h:b.fx) (D:gA):b.ids D:=by
 obtain ⟨c,T⟩:=b
 cases T with
 | ty t=>exact Blk.flat_ids (b:=⟨c,.ty t⟩) h
 | raw t fr=>trivial
 | mp=>exact h.elim
theorem Blk.fx_rd {b:Blk} (h:b.fx):b.T.rd=true:=by
 obtain ⟨c,T⟩:=b
 cases T with
 | ty t=>rfl
 | raw t fr=>rfl
 | mp=>exact h.elim
theorem Blk.fx_rn {b:Blk} (h:b.fx) (ρ:cI):b.rn ρ=b:=by
 obtain ⟨c,T⟩:=b
 cases T with
 | ty t=>exact Blk.rn_flat (b:=⟨c,.ty t⟩) h
 | raw t fr=>rfl
 | mp=>exact h.elim
theorem vi {cs:bV} (h:∀ x∈cs,bP x=true) (ρ:cI):cs.map (aw ρ)=cs:=by
 have:=Blk.rn_flat (ρ:=ρ) (b:=⟨cs,.ty 0⟩) h;simpa [Blk.rn] using this
section
variable {P:Program} {G:Hp}
structure LOk (m:bS) (B:Nat):Prop where
 big:∀ p∈m,100<=p.1/\p.1<B
 one:(ak m).Nodup
 ids:∀ p∈m,p.2.ids λk=>k∈ak m
theorem LOk.at {m:bS} (hn:(ak m).Nodup):∀ p∈m,hpL G m p.1=some p.2:=by
 induction m with
 | nil=>intro p hp;cases hp
 | cons q m ih =>
  obtain ⟨k,b⟩:=q;intro p hp;simp only [ak,bJ,gO] at hn;rw [aW];rcases al.1 hp with rfl|hp
  ·simp
  ·have df:¬p.1=k:=λe=>hn.1 (by rw [<-e];exact aD.2 ⟨p,hp,rfl⟩);rw [ab df];exact ih hn.2 p hp
theorem LOk.low {m:bS} {B:Nat} (h:LOk m B):∀ k,k<100->hpL G m k=G k:=λ_ hk=>cD (λp hp=>(h.big p hp).1) hk
theorem LOk.rst {m:bS} (cK:ct G):rst (hpL G m) (ak m)=hpL G m:=kR cK λp hp=>aI.2 ⟨p,hp,rfl⟩
theorem LOk.sub {m:bS} {B:Nat} (h:LOk m B) (k:Nat) (hk:k∈ak m):dom (hpL G m) k:=by
 obtain ⟨p,hp,rfl⟩:=aI.1 hk;unfold dom;rw [LOk.at h.one p hp];simp
theorem LOk.closed {m:bS} {B:Nat} (cK:ct G) (h:LOk m B) (k:Nat) (b:Blk) (hk:hpL G m k=some b):b.ids (dom (hpL G m)):=by
 rcases cB hk with h1|h1
 ·exact Blk.ids_mono (λq hq=>h.sub q hq) (h.ids (k,b) h1)
 ·exact Blk.flat_ids (cK k b h1).2
theorem LOk.free {m:bS} {B:Nat} (cK:ct G) (hB:100<=B) (h:LOk m B) (x:Nat) (hx:B<=x):hpL G m x=none:=by
 exact FT
theorem LOk.aside {m:bS} {B:Nat} (cK:ct G) (h:LOk m B):(λk=>if k∈ak m then none else hpL G m k)=hpL G []:=by
 funext k;rw [dm];by_cases hk:k∈ak m
 ·rw [ai hk];obtain ⟨p,hp,rfl⟩:=aI.1 hk
  cases hb:G p.1 with
  | none=>rfl
  | some b=>have:=(cK _ b hb).1;have:=(h.big p hp).1;omega
 ·rw [ab hk]
  cases hb:hpL G m k with
  | none =>
   cases hg:G k with
   | none=>rfl
   | some b=>rw [h.low k (cK k b hg).1,hg] at hb;cases hb
  | some b =>
   rcases cB hb with h1|h1
   ·exact absurd (aI.2 ⟨_,h1,rfl⟩) hk
   ·exact h1.symm
theorem LOk.clz {m:bS} {B:Nat} (h:LOk m B) {hp:Hp} (hh:∀ p∈m,hp p.1=some p.2):∀ k∈ak m,∀ b,hp k=some b->b.ids λq=>q∈ak m:=λk hk b hb=>by
 obtain ⟨p,hp1,rfl⟩:=aI.1 hk;rw [hh p hp1] at hb;cases hb;exact h.ids p hp1
theorem de {f:FuncId} {fn:Func} {c:Code} {args:bV} {m:bS} {v:Value} {ws:bS} {B:Nat} (cK:ct G) (hf:P.funcs[f]? = some fn) (hb:fn.body=some c) (eP:∀ a w,(callFunc f a).run P w=.ok (.enter f a) w)
  (hm:LOk m B) (ha:∀ x∈args,aN (λk=>k∈ak m) x) (hv:aN (λk=>k∈ak m) v) (hw:∀ p∈ws,p.1∈ak m/\p.2.ids (λk=>k∈ak m)) (hw1:∀ k b c,(k,b)∈ws->(k,c)∈ws->b=c) (hn:args.size<=fn.ntmps) (hB:100<=B)
  (h:∀ C:Ctx,C.G=G->C.hp0=hpL G m->C.Y=none->GW P C fn.ntmps [] none c ⟨λt=>args.getD t undef,hpL G m,B,0⟩ (ah6 P fn (hpL G m) (.ret v ws))):Fun P G f args (hpL G m) (ak m) (.ret v ws):=by
 have e:=LOk.rst (m:=m) cK;refine pH (B:=B) cK hm.low hf hb eP vX mj ⟨CM,λk hk=>?_,hw1,λp hp=>?_⟩ hn hB lW rP
 ·exact C6
 ·exact Cn
theorem jO {f:FuncId} {fn:Func} {c:Code} {bh:bV} {m:bS} {xs:List (Array Value)} {B:Nat} {v:Value} (cK:ct G) (hf:P.funcs[f]? = some fn) (hb:fn.body=some c) (eP:∀ a w,(callFunc f a).run P w=.ok (.enter f a) w)
  (hm:LOk m B) (ha:∀ x∈bh,da x=true/\aN (λk=>k∈ak m) x) (hn:bh.size+1<=fn.ntmps) (hB:100<=B)
  (h:∀ (C:Ctx) (l stop:Nat),C.G=G->C.hp0=hpL G m->C.Y=some ⟨l,xs,stop,none,none⟩->GW P C fn.ntmps [] none c ⟨λt=>(#[Value.func (.yield l) #[] #[]]++bh).getD t undef,hpL G m,B,0⟩
   (λe s=>(e=.normal\/e=.ret)/\qa P fn.results.toList s.ts s.hp=some v/\s.yc=min (stop+1) xs.length/\∀ k,dom (hpL G m) k->s.hp k=hpL G m k)):IterK P G f bh (hpL G m) (ak m) xs:=by
 exact Dk
theorem dJ {f:FuncId} {fn:Func} {c:Code} {args:bV} {m:bS} {R:AI} {B:Nat} (cK:ct G) (hf:P.funcs[f]? = some fn) (hb:fn.body=some c) (eP:∀ a w,(callFunc f a).run P w=.ok (.enter f a) w)
  (hm:LOk m B) (ha:∀ x∈args,aN (λk=>k∈ak m) x)
  (fp:∀ v ns,R v ns->aN (cJ (λk=>k∈ak m) ns) v/\(∀ p∈ns,B<=p.1/\p.2.ids (cJ (λk=>k∈ak m) ns))/\(∀ k b c,(k,b)∈ns->(k,c)∈ns->b=c))
  (hn:args.size<=fn.ntmps) (hB:100<=B)
  (h:∀ C:Ctx,C.G=G->C.hp0=hpL G m->C.Y=none->GW P C fn.ntmps [] none c ⟨λt=>args.getD t undef,hpL G m,B,0⟩ λe s=>(e=.normal\/e=.ret)/\(∀ k,dom (hpL G m) k->s.hp k=hpL G m k) /\
   ∃ v ns ρ,R v ns/\(∀ k,k<B->ρ k=k)/\(∀ p∈ns,B<=ρ p.1)/\(∀ p∈ns,∀ q∈ns,ρ p.1=ρ q.1->p.1=q.1)/\qa P fn.results.toList s.ts s.hp=some (ren ρ v)/\∀ p∈ns,s.hp (ρ p.1)=some (p.2.rn ρ)):FunS P G f args (hpL G m) (ak m) R:=by
 have e:=LOk.rst (m:=m) cK
 have cA:∀ k,dom (hpL G m) k->k<B:=λk hk=>by
  refine aO λh1=>hk (hm.free cK hB k zO)
 have ext:∀ ns k,cJ (λk=>k∈ak m) ns k->cJ (dom (hpL G m)) ns k:=λns k hk=>hk.imp (λh1=>hm.sub k h1) id;refine Sc (B:=B) cK hm.low hf hb eP vX mj (λv ns hR=>?_) hn hB lW (λC h1 h2 h3=>?_)
 ·rw [e];obtain ⟨f1,f2,f3⟩:=fp v ns hR;refine ⟨il (ext ns) f1,λk hk=>?_,f3,λp hp=>Blk.ids_mono (ext ns) (f2 p hp).2⟩;exact F4
 ·exact Dp
theorem dH {m:bS} (cK:ct G) {hp:Hp} (h1:∀ p∈m,hp p.1=hpL G m p.1) (h2:∀ k,k<100->hp k=hpL G m k):∀ k,dom (hpL G m) k->hp k=hpL G m k:=λk hk=>by
 unfold dom at hk
 cases hb:hpL G m k with
 | none=>exact absurd hb hk
 | some b =>
  rw [<-hb];rcases cB hb with h|h
  ·exact h1 _ h
  ·exact h2 k (cK k b h).1
theorem vz {m:bS} {B:Nat} (hm:LOk m B) (ρ:cI) (ba:∀ k,k<100->ρ k=k) {hp:Hp} (hp0:∀ k,k<100->hp k=G k) (m9:∀ p∈m,100<=ρ p.1/\hp (ρ p.1)=some (p.2.rn ρ)) (gu:∀ k∈ak m,∀ l∈ak m,ρ k=ρ l->k=l):Rn ρ (hpL G m) hp (ak m):=by
 exact FW
theorem ye {f:FuncId} {args fL:bV} {m ws:bS} {B:Nat} {v:Value} {hp:Hp} {nk:Nat} {K:Eff->Prop} (h:Fun P G f args (hpL G m) (ak m) (.ret v ws)) (cK:ct G) (hm:LOk m B) (ρ:cI) (ba:∀ k,k<100->ρ k=k) (ea:args.map (ren ρ)=fL)
  (m9:∀ p∈m,100<=ρ p.1/\hp (ρ p.1)=some (p.2.rn ρ)) (gu:∀ k∈ak m,∀ l∈ak m,ρ k=ρ l->k=l) (hK:K ((Res.ret (ren ρ v) (rnL ρ ws)).eff ((ak m).map ρ))):pI P G f fL hp nk K:=by
 let db:Hp:=λk=>if k<100 then G k else hp k
 have h1:Rn ρ (hpL G m) db (ak m):=vz hm ρ ba (λk hk=>by simp [db,hk]) (λp hp1=>⟨(m9 p hp1).1,by
  show (if ρ p.1<100 then G (ρ p.1) else hp (ρ p.1))=_;have:=(m9 p hp1).1;rw [ab zO];exact (m9 p hp1).2⟩) gu
 subst ea;refine eX (h.rn ρ cK hm.low h1) (λk hk=>?_) (λk hk=>by simp [db,hk]) (by exact trivial) hK;obtain ⟨q,hq,rfl⟩:=aD.1 hk;obtain ⟨p,hp1,rfl⟩:=aI.1 hq;show (if ρ p.1<100 then G (ρ p.1) else hp (ρ p.1))=_;have:=(m9 p hp1).1;rw [ab zO]
theorem az {f:FuncId} {args fL:bV} {m:bS} {B:Nat} {v:Value} {hp:Hp} {nk:Nat} {K:Eff->Prop} (h:Fun P G f args (hpL G m) (ak m) (.ret v [])) (cK:ct G) (hm:LOk m B) (ρ:cI) (ba:∀ k,k<100->ρ k=k) (ea:args.map (ren ρ)=fL) (hv:bz v=true)
  (m9:∀ p∈m,100<=ρ p.1/\hp (ρ p.1)=some (p.2.rn ρ)) (gu:∀ k∈ak m,∀ l∈ak m,ρ k=ρ l->k=l) {rs:List Nat} (er:(ak m).map ρ=rs) (hK:K ((Res.ret v []).eff rs)):pI P G f fL hp nk K :=
 ye h cK hm ρ ba ea m9 gu (by rw [bM hv,er];exact hK)
theorem pK {f:FuncId} {bh sK:bV} {m:bS} {B:Nat} {xs:List (Array Value)} {hp:Hp} {rs:List Nat} (h:IterK P G f bh (hpL G m) (ak m) xs) (cK:ct G) (hm:LOk m B) (ρ:cI) (ba:∀ k,k<100->ρ k=k) (ea:bh.map (aA ρ)=sK) (er:(ak m).map ρ=rs)
  (hp0:∀ k,k<100->hp k=G k) (m9:∀ p∈m,100<=ρ p.1/\hp (ρ p.1)=some (p.2.rn ρ)) (gu:∀ k∈ak m,∀ l∈ak m,ρ k=ρ l->k=l):IterK P G f sK hp rs xs:=by
 subst ea er;exact h.rn ρ cK hm.low (vz hm ρ ba hp0 m9 gu)
end
section
variable {P:Program} {C:Ctx} {n:Nat} {d:List Deferred} {s:GS} {K:kV} {G:Hp}
theorem Sw (v:Value):aT (λk=>k) v=v:=by
 cases v with
 | agg cs=>simp only [aT];rw [bK (λx _=>yq x)];simp
 | _=>unfold aT;exact yq _
theorem zk (v:Value):ren (λk=>k) v=v:=by
 cases v with
 | tuple cs=>simp only [ren];rw [bK (λx _=>Sw x)];simp
 | _=>unfold ren;exact Sw _
theorem Blk.rn_id (b:Blk):b.rn (λk=>k)=b:=by
 obtain ⟨c,T⟩:=b
 cases T with
 | ty t=>simp only [Blk.rn];rw [bK (λx _=>yq x)];simp
 | raw t fr=>rfl
 | mp=>simp only [Blk.rn];rw [bK (λx _=>yq x)];simp
theorem adD {l l2:List (Nat×Value)} {u:Nat}:tsL (l++l2) u=tsL l u\/(u,tsL (l++l2) u)∈l2:=by
 induction l with
 | nil =>
  rcases nJ (l:=l2) (t:=u) with h|h
  ·exact .inl h
  ·exact .inr h
 | cons p l ih =>
  obtain ⟨k,v⟩:=p;rw [bq,IK,IK];by_cases h:u=k
  ·left;rw [ai h,ai h]
  ·rw [ab h,ab h];exact ih
theorem Md {t:Tmp} {ps:Array Tmp} {assign body:Code} {f:FuncId} {bh:bV} {rs:List Nat} {xs:List (Array Value)} {m0:bS} (gr:List Nat) (cK:ct G) (hG:C.G=G) (h0:C.hp0=hpL G m0) (hY:C.Y=none) (hg:s.ts t=.func (.func f) #[] bh) (ny:IterK P G f bh s.hp rs xs)
  (yH:∀ x∈xs,x.size=ps.size/\∀ v∈x,bz v=true) (JY:∀ p∈ps,p<n) (l l2:List (Nat×Value)) (m:Nat->List (Nat×Blk)) (B:Nat) (N:Nat) (hN:N<=xs.length) (hB:100<=B)
  (zZ:∀ k∈rs,k∈gr) (has:∀ k∈gr,100<=k/\dom s.hp k/\k<B) (mM:∀ k∈gr,∀ b,s.hp k=some b->b.ids λq=>q∈gr)
  (hl:∀ p∈l,s.ts p.1=p.2) (zv:∀ p∈l2,s.ts p.1=p.2/\aN (λq=>q∈gr) p.2)
  (L6:∀ p∈m 0,s.hp p.1=some p.2) (hm:∀ i,i<=N->(∀ p∈l,aN (dom (hpL G (m i))) p.2)/\∀ p∈m i,100<=p.1/\p.1<B/\p.1∉gr/\p.2.ids (dom (hpL G (m i))))
  (hk:∀ p∈m0,p.1∈gr\/(100<=p.1/\hpL G (m 0) p.1=s.hp p.1/\∀ i,i<=N->dom (hpL G (m i)) p.1))
  (rounds:∀ i x,i<N->xs[i]? = some x->∀ (C1:Ctx) (j:Nat),C1.G=G->C1.hp0=hpL G (m i)->C1.Y=none->GW P C1 n [] (some j) assign ⟨bC ps.toList x.toList (tsL l),hpL G (m i),B,0⟩
   (dU (λs1=>∀ C2:Ctx,C2.G=G->C2.hp0=hpL G (m i)->C2.Y=none->ux C2 j->GW P C2 n [] (some j) body s1 (dU (λs2=>∀ p∈m (i+1),s2.hp p.1=some p.2) (λ_ _=>False))) (λ_ _=>False)))
  (fin:(N=xs.length/\K .normal ⟨tsL (l++l2),eW gr s.hp (hpL G (m N)),B,s.yc⟩)\/∃ x,xs[N]? = some x/\∀ (C1:Ctx) (j:Nat),C1.G=G->C1.hp0=hpL G (m N)->C1.Y=none->GW P C1 n [] (some j) assign ⟨bC ps.toList x.toList (tsL l),hpL G (m N),B,0⟩
    (dU (λs1=>∀ C2:Ctx,C2.G=G->C2.hp0=hpL G (m N)->C2.Y=none->ux C2 j->GW P C2 n [] (some j) body s1 (λe s2=>(eV e).isSome=true/\(∀ p∈l,aN (dom s2.hp) p.2)/\(∀ k∈gr,s2.hp k=none/\k<s2.B)/\K e ⟨tsL (l++l2),eW gr s.hp s2.hp,s2.B,s.yc⟩)) (λ_ _=>False))) :
  GW P C n d none (.rangeFunc (.tmp t) ps assign body) s K:=by
 have asn:∀ i,i<=N->∀ k∈gr,hpL G (m i) k=none:=λi hi k nz=>by
  cases hb:hpL G (m i) k with
  | none=>rfl
  | some b =>
   rcases cB hb with h|h
   ·exact absurd nz ((hm i hi).2 _ h).2.2.1
   ·have:=(cK k b h).1;have:=(has k nz).1;omega
 have R1:∀ i,i<=N->∀ C0:Ctx,C0.G=C.G->(C0.hp0=λk=>if k∈gr then none else C.hp0 k)->∀ s2:GS,s2.yc=s.yc->(∀ p∈m i,s2.hp p.1=some p.2)->s2.ts=tsL l->WeakR C0 (λk=>k) s2 ⟨tsL l,hpL G (m i),B,s.yc⟩:=λi hi C0 c1 c2 s2 hyc hs ht=>by
  refine ⟨λu=>?_,λk b hb h1=>⟨?_,h1⟩,λk b hb=>?_,λk q _ _ e=>e,λ_ _=>rfl,λk b _ _=>Blk.rn_id b,λk h1 hd=>⟨?_,rfl⟩,λk h1=>?_,hyc.symm,λx hx=>?_,hB⟩
  ·rcases nJ (l:=l) (t:=u) with h|h
   ·exact .inl h
   ·by_cases hj:tsL l u=eY
    ·exact .inl hj
    ·exact .inr ⟨by rw [ht,zk],by rw [ht];exact hj,(hm i hi).1 _ h⟩
  ·rw [Blk.rn_id];rcases cB hb with h|h
   ·exact hs _ h
   ·have:=(cK k b h).1;omega
  ·rcases cB hb with h|h
   ·exact ((hm i hi).2 _ h).2.2.2
   ·exact Blk.flat_ids (cK k b h).2
  ·have fq:k∉gr:=λOS=>by
    have h2:C0.hp0 k≠none:=hd;rw [c2] at h2;exact h2 (ai OS)
   have h2:C0.hp0 k≠none:=hd;rw [c2] at h2;simp only [ab fq] at h2;rw [h0] at h2
   cases hb:hpL G m0 k with
   | none=>exact absurd hb h2
   | some b =>
    rcases cB hb with h|h
    ·rcases hk _ h with h3|h3
     ·exact absurd h3 fq
     ·exact h3.2.2 i hi
    ·have:=(cK k b h).1;omega
  ·rw [c1,hG];exact cD (λp hp=>((hm i hi).2 p hp).1) h1
  ·dsimp only at hx |-
   cases hb:hpL G (m i) x with
   | none=>rfl
   | some b =>
    rcases cB hb with h|h
    ·have:=((hm i hi).2 _ h).2.1;simp at this;omega
    ·have:=(cK x b h).1;omega
 refine Hh (rs:=rs) (xs:=xs) gr hY hg (hG.symm▸ny) yH JY (tsL l) (tsL (l++l2)) (λi h=>h=hpL G (m i)) (hpS:=hpL G (m 0)) B N hN zZ (λk nz=>⟨(has k nz).1,(has k nz).2.1⟩) (λk hk b hb=>Blk.ids_mono (λq hq=>.inl hq) (mM k hk b hb)) (λC0 c1 c2=>?_) rfl (asn 0 (fC _)) (λu=>?_) (λi x hq hi hx hI C1 j c1 c2 c3=>?_) ?_
 ·refine ⟨λu=>?_,λk h1=>?_,(R1 0 (fC _) C0 c1 c2 ⟨tsL l,s.hp,s.B,s.yc⟩ rfl L6 rfl).ids,λk h1 hd=>?_,(R1 0 (fC _) C0 c1 c2 ⟨tsL l,s.hp,s.B,s.yc⟩ rfl L6 rfl).glob,rfl,(R1 0 (fC _) C0 c1 c2 ⟨tsL l,s.hp,s.B,s.yc⟩ rfl L6 rfl).free,hB⟩
  ·rcases nJ (l:=l) (t:=u) with h|h
   ·exact .inl h
   ·exact .inr ⟨(hl _ h).symm,(hm 0 (fC _)).1 _ h⟩
  ·dsimp only
   cases hb:hpL G (m 0) k with
   | none=>exact .inl rfl
   | some b =>
    rcases cB hb with h|h
    ·exact .inr (L6 _ h).symm
    ·have:=(cK k b h).1;omega
  ·have h2:C0.hp0 k≠none:=hd;rw [c2] at h2;have fq:k∉gr:=λOS=>h2 (ai OS);simp only [ab fq] at h2;rw [h0] at h2
   cases hb:hpL G m0 k with
   | none=>exact absurd hb h2
   | some b =>
    rcases cB hb with h|h
    ·rcases hk _ h with h3|h3
     ·exact absurd h3 fq
     ·exact h3.2.1
    ·have:=(cK k b h).1;omega
 ·rcases adD (l:=l) (l2:=l2) (u:=u) with h|h
  ·exact .inl h
  ·exact .inr ⟨(zv _ h).1.symm,by rw [(zv _ h).1];exact (zv _ h).2⟩
 ·subst hI;refine iu (rounds i x hi hx C1 j (c1.trans hG) c2 c3) λe s1 hs=>?_
  cases e with
  | normal =>
   intro C2 q1 q2 q3 q4;refine iu (hs C2 (q1.trans hG) q2 q3 q4) λe s2 pV=>?_
   cases e with
   | normal=>exact ⟨λk=>k,_,λC0 z1 z2=>R1 (i+1) hi C0 z1 z2 _ rfl pV rfl,rfl⟩
   | _=>exact pV.elim
  | _=>exact hs.elim
 ·rcases fin with ⟨f1,f2⟩|⟨x,f1,f2⟩
  ·exact .inl ⟨f1,λhq hI=>by subst hI;exact ⟨λk nz=>⟨asn N (aG _) k nz,(has k nz).2.2⟩,f2⟩⟩
  ·refine .inr ⟨x,f1,λhq hI C1 j c1 c2 c3=>?_⟩;subst hI;refine iu (f2 C1 j (c1.trans hG) c2 c3) λe s1 hs=>?_
   cases e with
   | normal =>
    intro C2 q1 q2 q3 q4;refine iu (hs C2 (q1.trans hG) q2 q3 q4) λe s2 pV=>⟨pV.1,λu=>?_,pV.2.2.1,pV.2.2.2⟩
    rcases nJ (l:=l) (t:=u) with h|h
    ·rw [h];simp [eY,aN,cp,aL,aR]
    ·exact pV.2.1 _ h
   | _=>exact hs.elim
theorem td {t:Tmp} {ps:Array Tmp} {assign body:Code} {f:FuncId} {bh:bV} {rs:List Nat} {xs:List (Array Value)} {m0:bS} (gr:List Nat) (cK:ct G) (hG:C.G=G) (h0:C.hp0=hpL G m0) (hY:C.Y=none) (hg:s.ts t=.func (.func f) #[] bh) (ny:IterK P G f bh s.hp rs xs)
  (yH:∀ x∈xs,x.size=ps.size/\∀ v∈x,bz v=true) (JY:∀ p∈ps,p<n) (l l2:List (Nat×Value)) (m:Nat->List (Nat×Blk)) (B:Nat) (N:Nat) (hN:N<=xs.length) (hB:100<=B)
  (zZ:∀ k∈rs,k∈gr) (has:∀ k∈gr,100<=k/\dom s.hp k/\k<B) (mM:∀ k∈gr,∀ b,s.hp k=some b->b.ids λq=>q∈gr)
  (hl:∀ p∈l,s.ts p.1=p.2) (zv:∀ p∈l2,s.ts p.1=p.2/\aN (λq=>q∈gr) p.2)
  (L6:∀ p∈m 0,s.hp p.1=some p.2) (hm:∀ i,i<=N->(∀ p∈l,aN (dom (hpL G (m i))) p.2)/\∀ p∈m i,100<=p.1/\p.1<B/\p.1∉gr/\p.2.ids (dom (hpL G (m i))))
  (hk:∀ p∈m0,p.1∈gr\/(100<=p.1/\hpL G (m 0) p.1=s.hp p.1/\∀ i,i<=N->dom (hpL G (m i)) p.1))
  (rounds:∀ i x,i<N->xs[i]? = some x->∀ (C1:Ctx) (j:Nat),C1.G=G->C1.hp0=hpL G (m i)->C1.Y=none->GW P C1 n [] (some j) assign ⟨bC ps.toList x.toList (tsL l),hpL G (m i),B,0⟩
   (dU (λs1=>∀ C2:Ctx,C2.G=G->C2.hp0=hpL G (m i)->C2.Y=none->GW P C2 n [] (some j) body s1 (dU (λs2=>∀ p∈m (i+1),s2.hp p.1=some p.2) (λ_ _=>False))) (λ_ _=>False)))
  (fin:(N=xs.length/\K .normal ⟨tsL (l++l2),eW gr s.hp (hpL G (m N)),B,s.yc⟩)\/∃ x,xs[N]? = some x/\∀ (C1:Ctx) (j:Nat),C1.G=G->C1.hp0=hpL G (m N)->C1.Y=none->GW P C1 n [] (some j) assign ⟨bC ps.toList x.toList (tsL l),hpL G (m N),B,0⟩
    (dU (λs1=>∀ C2:Ctx,C2.G=G->C2.hp0=hpL G (m N)->C2.Y=none->GW P C2 n [] (some j) body s1 (λe s2=>(eV e).isSome=true/\(∀ p∈l,aN (dom s2.hp) p.2)/\(∀ k∈gr,s2.hp k=none/\k<s2.B)/\K e ⟨tsL (l++l2),eW gr s.hp s2.hp,s2.B,s.yc⟩)) (λ_ _=>False))) :
  GW P C n d none (.rangeFunc (.tmp t) ps assign body) s K :=
 Md gr cK hG h0 hY hg ny yH JY l l2 m B N hN hB zZ has mM hl zv L6 hm hk (λi x h1 h2 C1 j h4 h5 h6=>iu (rounds i x h1 h2 C1 j h4 h5 h6) λe s1 h=>by
   cases e<;>first|exact λC2 k1 k2 k3 _=>h C2 k1 k2 k3|exact h)
  (fin.imp id λ⟨x,hx,h⟩=>⟨x,hx,λC1 j h4 h5 h6=>iu (h C1 j h4 h5 h6) λe s1 h=>by
   cases e<;>first|exact λC2 k1 k2 k3 _=>h C2 k1 k2 k3|exact h⟩)
end
end Go.Gy
namespace Go.Gy
open Go Go.RowKit
theorem G4 {G : Hp} {m : List (Nat × Blk)} (cK : ct G) {hp : Hp} (h1 : ∀ p ∈ m, hp p.1 = hpL G m p.1 := by simp) (h2 : ∀ k, k < 100 -> hp k = hpL G m k := by (intro k hk; first | rfl | (simp (disch := omega) only [eW, al, aB, aC, aj, aW, dm, ab, bW] <;> done))) : ∀ k, dom (hpL G m) k -> hp k = hpL G m k := dH cK h1 h2
theorem I1 {G : Hp} {m : List (Nat × Blk)} (cK : ct G) {hp : Hp} (h1 : ∀ p ∈ m, hp p.1 = hpL G m p.1 := by (intro p hp; have hpb := hT.ok.big p hp; first | rfl | (simp (disch := omega) only [eW, aj, aW, dm, ab, bW, bq, bw] <;> done))) (h2 : ∀ k, k < 100 -> hp k = hpL G m k := by (intro k hk; first | exact jW k hk | (simp (disch := omega) only [jW, eW, al, aB, aC, aj, aW, dm, ab, bW, bq, bw] <;> done))) : ∀ k, dom (hpL G m) k -> hp k = hpL G m k := dH cK h1 h2
theorem ji {L : List (Nat × Blk)} {hp : Hp} (h : ∀ p ∈ L, hp p.1 = some p.2 := by (intro p hp; have hpb := hT.ok.big p hp; (try dsimp only); simp (disch := omega) only [eW, aj, aW, dm, ab, bW, bq, bw]; first | exact hT.mem p hp | exact cL p hp)) : ∀ p ∈ L, hp p.1 = some p.2 := h
end Go.Gy
namespace Go.Gy
open Go Go.RowKit
theorem eS {X A B C : Prop} (x : X) (b : X -> B := by intro x; simp [x]) (a : A := by exact .inr rfl) (c : C := by exact G4 G0F) : A /\ B /\ C := ⟨a, b x, c⟩
theorem eT {X A B C : Prop} (x : X) (b : X -> B := by intro x; simp [x]) (a : A := by exact .inr rfl) (c : C := by exact I1 G0F) : A /\ B /\ C := ⟨a, b x, c⟩
theorem vU {p:Prop} (h:p:=by unfold dom;rw [uh];simp):p:=h
def gR (b:Blk):Bool:=match b.T with
 | .raw _ _=>true
 | _=>false
def Blk.sld (b:Blk):Blk:=match b.T with
 | .ty t=>⟨b.c,.raw t (0,0)⟩
 | _=>b
theorem tH {b:Blk} (h:gR b=true) (r:cI):b.obj r=b.obj0:=by
 obtain ⟨c,T⟩:=b;cases T<;>first|rfl|cases h
theorem Sv {b:Blk} (h:gR b=true) {D:gA}:b.ids D:=by
 obtain ⟨c,T⟩:=b;cases T<;>first|trivial|cases h
theorem K1 {b:Blk} (h:b.fx) (r:cI):b.obj r=b.sld.obj0:=by
 obtain ⟨c,T⟩:=b
 cases T with
 | ty t =>
  show Obj.cells (c.map (aw r)) t (0,0)=Obj.cells c t (0,0)
  have:c.map (aw r)=c:=by
   have:c.map (aw r)=c.map id:=bK λx hx=>eU (h x hx);rw [this];simp
  rw [this]
 | raw t fr=>rfl
 | mp=>exact h.elim
theorem ya {b:Blk} (h:b.fx):gR b.sld=true:=by
 obtain ⟨c,T⟩:=b;cases T<;>first|rfl|exact h.elim
def zy (P:Program) (G:Hp) (E:Ext) (l:Nat) (sh:bS) (rS:cI) (N:Nat) (R:Nat->Array Value->Blk->Prop) (stop:Nat):Prop :=
 ∀ c x b S V a',c<N->c<=stop->R c x b->gR b=true->GOK G V->E.X c S V->(∀ k,S k->k<V.heap.size)->(∀ p∈sh,V.heap[rS p.1]? = some p.2.obj0)->V.heap[a']? = some b.obj0->¬S a' ->
  YieldAt (Fs P) 0 P l (x.map (ren λ_=>a')) V λe V'=>e=.returned (.bool (c != stop))/\GOK G V'/\V.heap.size<=V'.heap.size/\(∀ k,k<V.heap.size->¬S k->V'.heap[k]? = V.heap[k]?)/\(∀ p∈sh,V'.heap[rS p.1]? = V.heap[rS p.1]?) /\
   ∃ S',E.X (c+1) S' V'/\(∀ k,S' k->k<V'.heap.size)/\∀ k,S' k->k<V.heap.size->S k\/k=a'
structure GIB (G:Hp) (E:Ext) (n:Nat) (sh:bS) (rS:cI) (r:cI) (s:GS) (a:Act) (W:World):Prop where
 size:a.tmps.size=n
 rel:Rel r (dom s.hp) s.ts a
 sat:Sat r (dom s.hp) s.hp W
 inj:Inj r (dom s.hp)
 ext:∃ S,E.X s.yc S W/\(∀ k,S k->k<W.heap.size)/\∀ i b,s.hp i=some b->100<=i->gR b=false->¬S (r i)
 defers:a.defers=[]
 keepS:∀ p∈sh,s.hp p.1=some p.2/\r p.1=rS p.1
 glob:∀ k,k<100->s.hp k=G k
 low:∀ k,k<100->dom s.hp k->r k=k
 free:∀ x,s.B<=x->s.hp x=none
 lowB:100<=s.B
theorem GIB.gok {G:Hp} {E:Ext} {n:Nat} {sh:bS} {rS r:cI} {s:GS} {a:Act} {W:World} (cK:ct G) (h:GIB G E n sh rS r s a W):GOK G W:=λk b hk=>by
 obtain ⟨cA,BR⟩:=cK k b hk;have hb:s.hp k=some b:=(h.glob k cA).trans hk;exact De
section
variable {P:Program} {G:Hp} {E:Ext} {n:Nat} {sh:bS} {rS:cI} {ro:Option Nat} {s:GS} {K:kV}
def GB (P:Program) (G:Hp) (E:Ext) (n:Nat) (sh:bS) (rS:cI) (ro:Option Nat) (c:Code) (s:GS) (K:kV):Prop :=
 ∀ r a W,GIB G E n sh rS r s a W->c.wpIn (Fw P ro) 0 P (λe a' W'=>∃ s' r',K e s'/\GIB G E n sh rS r' s' a' W') a W
theorem GIB.step (cK:ct G) (m7:∀ p∈sh,gR p.2=true/\100<=p.1) {r r1:cI} {a a':Act} {W W':World} {s1:GS} (h:GIB G E n sh rS r s a W) {ts1:eM} {hp1:Hp} {yc1 B1:Nat}
  (hi:RI ⟨iI W (imO r s.hp),s.hp,r,G,some .still⟩ n [] r1 ts1 hp1 yc1 a' W') (dx:∀ x,B1<=x->hp1 x=none) (hB:100<=B1) (nB:∀ i b,s.hp i=some b->gR b=true->hp1 i=some b):GIB G E n sh rS r1 ⟨ts1,hp1,B1,s.yc⟩ a' W':=by
 have pZ:=hi.still rfl;obtain ⟨S,hX,cf,dj⟩:=h.ext;obtain ⟨S1,ms,⟨MP,os,tape,output,size,mH⟩,avO,sx,_,_⟩:=hi.ext;have ig:∀ i,dom s.hp i->dom hp1 i/\r1 i=r i:=hi.keep;refine ⟨hi.size,hi.rel,hi.sat,hi.inj,⟨S,E.ok _ _ _ _ hX (λk hk=>?_) os tape output size,λk hk=>j8 (cf k hk) size,λi b IX g5 hr hS=>?_⟩,pZ,λp hp=>?_,hi.glob,hi.low,dx,hB⟩
 ·have cA:=cf k hk;by_cases Vs:imO r s.hp k
  ·obtain ⟨i,hd,rfl⟩:=Vs;have tV:=hd;unfold dom at tV
   cases hb:s.hp i with
   | none=>exact absurd hb tV
   | some b =>
    by_cases h1:100<=i
    ·cases hr:gR b with
     | false=>exact absurd hk (dj i b hb h1 hr)
     | true =>
      have h2:=(hi.sat i b (nB i b hb hr)).1;rw [(ig i hd).2,tH hr] at h2;rw [h2,(h.sat i b hb).1,tH hr]
    ·have hg:G i=some b:=by rw [<-h.glob i zO];exact hb
     have ju:hp1 i=some b:=by rw [hi.glob i zO];exact hg
     have h2:=(hi.sat i b ju).1;rw [(ig i hd).2,Blk.obj_flat (λx hx=>(cK i b hg).2 x hx)] at h2;rw [h2,(h.sat i b hb).1,Blk.obj_flat (λx hx=>(cK i b hg).2 x hx)]
  ·exact mH k ((MP k).2 ⟨cA,Vs⟩)
 ·have cA:=cf _ hS;have RG:dom hp1 i:=by unfold dom;rw [show hp1 i=some b from IX];simp
  have h2:=sx i RG g5;rw [MP] at h2;have Vs:imO r s.hp (r1 i):=aO λhc=>h2 ⟨cA,hc⟩;obtain ⟨j,hj,e⟩:=Vs;have hkj:=ig j hj;have:j=i:=hi.inj j i hkj.1 RG (hkj.2.trans e);subst this;have RK:=hj;unfold dom at RK
  cases hb:s.hp j with
  | none=>exact RK hb
  | some b0 =>
   cases hr0:gR b0 with
   | false=>exact dj j b0 hb g5 hr0 (by rw [e];exact hS)
   | true =>
    have h3:=nB j b0 hb hr0;have uh:hp1 j=some b:=IX;rw [h3] at uh;cases uh;rw [hr0] at hr;cases hr
 ·have h1:=h.keepS p hp;have hd:dom s.hp p.1:=by unfold dom;rw [h1.1];simp
  exact ⟨nB p.1 p.2 h1.1 (m7 p hp).1,(ig p.1 hd).2.trans h1.2⟩
theorem Jw (cK:ct G) (m7:∀ p∈sh,gR p.2=true/\100<=p.1) {c:Code} (h:∀ C:Ctx,C.G=G->C.hp0=s.hp->C.Y=some .still->GW P C n [] ro c ⟨s.ts,s.hp,s.B,0⟩ λe s1=>(∀ i b,s.hp i=some b->gR b=true->s1.hp i=some b)/\K e ⟨s1.ts,s1.hp,s1.B,s.yc⟩):GB P G E n sh rS ro c s K:=by
 intro r a W hi;have hg:=zN (P:=P) (G:=G) (n:=n) (B:=s.B) cK hi.size hi.defers hi.rel hi.sat hi.inj hi.low hi.glob hi.free hi.lowB;refine wpIn_mono (h _ rfl rfl rfl r a W hg) ?_;rintro e a' W' ⟨s1,r1,⟨nB,hK⟩,jU⟩;exact ⟨_,r1,hK,hi.step (s1:=s1) cK m7 jU.ri jU.free jU.low nB⟩
theorem ur {x y:Code} (h:GB P G E n sh rS ro x s (dU (λs'=>GB P G E n sh rS ro y s' K) K)):GB P G E n sh rS ro (.seq x y) s K:=by
 exact Fe
theorem Q8 (h:K .normal s):GB P G E n sh rS ro .skip s K:=λr _ _ hi=>wpIn_skip ⟨s,r,h,hi⟩
theorem VO (h:K .ret s):GB P G E n sh rS ro .ret s K:=λr _ _ hi=>wpIn_ret ⟨s,r,h,hi⟩
theorem aas {id:Nat} (h:K (.exit id) s):GB P G E n sh rS ro (.exit id) s K:=λr _ _ hi=>wpIn_exit ⟨s,r,h,hi⟩
theorem KE {t:Tmp} {x y:Code} {b:Bool} (hb:s.ts t=.bool b) (ht:b=true->GB P G E n sh rS ro x s K) (hf:b=false->GB P G E n sh rS ro y s K):GB P G E n sh rS ro (.cond (.tmp t) x y) s K:=by
 intro r a W hi
 have he:a.eval (.tmp t)=.bool b:=by
  have:=(hi.rel t).resolve_left (by rw [hb];simp [eY]);rw [hb] at this;exact this.1
 exact FV
theorem Ma {id:Nat} {c:Code} (h:GB P G E n sh rS ro c s (nm id K)):GB P G E n sh rS ro (.block id c) s K:=by
 exact Ev
theorem GIB.weak {r:cI} {a:Act} {W:World} {s':GS} {Y:Option YG} (h:GIB G E n sh rS r s a W) (hw:Weak ⟨E,hpL G sh,rS,G,Y⟩ s s') (Vw:∀ p∈sh,s'.hp p.1=s.hp p.1):GIB G E n sh rS r s' a W:=by
 have yY:∀ k,s'.hp k=none\/s'.hp k=s.hp k:=λk=>by
  by_cases hk:100<=k
  ·exact hw.hp k hk
  ·exact .inr ((hw.glob k zO).trans (h.glob k zO).symm)
 have sub:∀ k,dom s'.hp k->dom s.hp k:=λk hk=>by
  exact E6
 refine ⟨h.size,λt=>?_,λk b hb=>?_,λk l hk hl=>h.inj k l (sub k hk) (sub l hl),?_,h.defers,λp hp=>⟨(Vw p hp).trans (h.keepS p hp).1,(h.keepS p hp).2⟩,hw.glob,λk hk hd=>h.low k hk (sub k hd),hw.free,hw.low⟩
 ·rcases hw.ts t with e|⟨e,hi⟩
  ·exact .inl e
  ·rcases h.rel t with e'|e'
   ·exact .inl (e.trans e')
   ·exact .inr ⟨by rw [e];exact e'.1,hi⟩
 ·rcases yY k with e|e
  ·rw [e] at hb;cases hb
  ·exact ⟨(h.sat k b (by rw [<-e];exact hb)).1,hw.ids k b hb⟩
 ·obtain ⟨S,h1,h2,h3⟩:=h.ext;exact ⟨S,rv,h2,λi b hi=>h3 i b ((yY i).elim (λe=>by rw [e] at hi;cases hi) λe=>e.symm.trans hi)⟩
theorem Q9 {c:Code} {s':GS} {Y:Option YG} (hw:Weak ⟨E,hpL G sh,rS,G,Y⟩ s s') (Vw:∀ p∈sh,s'.hp p.1=s.hp p.1) (h:GB P G E n sh rS ro c s' K):GB P G E n sh rS ro c s K :=
 λr a W hi=>h r a W (hi.weak hw Vw)
def GLB (P:Program) (G:Hp) (E:Ext) (n:Nat) (sh:bS) (rS:cI) (ro:Option Nat) (ops:Array Oper) (base k:Nat) (l:og) (ts:eM) (hp:Hp) (yc:Nat) (K:kV):Prop :=
 ∀ r a W,GIB G E n sh rS r ⟨ts,hp,base+8*k,yc⟩ a W->wpListIn (Fw P ro) 0 P ops (λe a' W'=>∃ s' r',K e s'/\GIB G E n sh rS r' s' a' W') l a W
theorem aat {id:Nat} {l:og} (h:GLB P G E n sh rS ro l.toArray s.B 0 l s.ts s.hp s.yc K):GB P G E n sh rS ro (.region id l.toArray false) s K:=λr a W hi =>
 wpIn_region_lit (h r a W hi)
theorem Ra {ops:Array Oper} {base k:Nat} {ts:eM} {hp:Hp} {yc:Nat} (h:K .normal ⟨ts,hp,base+8*k,yc⟩):GLB P G E n sh rS ro ops base k [] ts hp yc K:=λr a W hi =>
 wpListIn_nil ⟨_,r,h,hi⟩
theorem He (cK:ct G) (m7:∀ p∈sh,gR p.2=true/\100<=p.1) {l0 l:og} {base k:Nat} {ts:eM} {hp:Hp} {yc:Nat} (hb:100<=base) (j:Nat) (pn:List FuncId) (hl:l=l0.drop k) (hk:k<=l0.length) (jL:(sO n (l.take j)&&GJ P (l.take j))=true)
  (h:∀ q:(Nat->Value)->Hp->Tr->Nat->Prop,(∀ oW db tr xS,(∀ i b,hp i=some b->gR b=true->db i=some b)->GLB P G E n sh rS ro l0.toArray base (k+(l.take j).length) (l.drop j) oW db yc K->q oW db tr xS) ->
   pd P G ⟨some .still,pn,false⟩ base ⟨q,λ_ _=>False⟩ ((l0.take k).map (·.dst)).reverse k (l.take j) ts hp [] 0 true false):GLB P G E n sh rS ro l0.toArray base k l ts hp yc K:=by
 intro r a W hi;simp only [bO] at jL;have e:l=l.take j++l.drop j:=(List.take_append_drop j l).symm;have ek:(l0.take k).length=k:=aE;have hg:=zN (P:=P) (G:=G) (n:=n) (B:=base+8*k) cK hi.size hi.defers hi.rel hi.sat hi.inj hi.low hi.glob hi.free zO;have hh:=h (λoW db _ xS=>(∀ i b,hp i=some b->gR b=true->db i=some b)/\GLB P G E n sh rS ro l0.toArray base (k+(l.take j).length) (l.drop j) oW db yc K) (λ_ _ _ _ a b=>⟨a,b⟩)
 have hx:sX P G ⟨some .still,pn,false⟩ l0.toArray base (λoW db _ xS=>(∀ i b,hp i=some b->gR b=true->db i=some b)/\GLB P G E n sh rS ro l0.toArray base (k+(l.take j).length) (l.drop j) oW db yc K) (λ_ _=>False) k (l.take j) ts hp [] 0 true false:=by
  exact EO
 rw [e]
 refine tT (C:=⟨iI W (imO r hp),hp,r,G,some .still⟩) (d:=[]) (l.drop j) (ops:=l0.toArray) (base:=base) (pn:=pn) (Q:=λe a' W'=>∃ s' r',K e s'/\GIB G E n sh rS r' s' a' W') (Kn:=λoW db xS=>(∀ i b,hp i=some b->gR b=true->db i=some b)/\GLB P G E n sh rS ro l0.toArray base (k+(l.take j).length) (l.drop j) oW db yc K) (Kp:=λ_=>False) (hp0:=hp) (iP:=ts) (l0:=l.take j) cK hg.rounds hb (l.take j) k ts hp [] 0 true false r a W
  (λo ho=>⟨⟨pG jL.1 ho,s9 jL.2 o ho⟩,ho⟩) (λ_ _=>rfl) hg.ri hi.free zS (λoW db xS r' a' W' g8 cv Vr _=>?_) (λ_ _ _ _ _ _ _ h=>h.elim) hx
 exact g8.2 r' a' W' (GIB.step (s:=⟨ts,hp,base+8*k,yc⟩) (s1:=⟨oW,db,base,yc⟩) cK m7 hi cv Vr zO g8.1)
theorem SV (cK:ct G) (m7:∀ p∈sh,gR p.2=true/\100<=p.1) {l N stop:Nat} {R:Nat->Array Value->Blk->Prop} (hR:zy P G E l sh rS N R stop) {ops:Array Oper} {o:Oper} {post:og} {base k:Nat} {ts:eM} {hp:Hp} {yc kb:Nat} {b:Blk} {f:Operand} {args:Array Operand} {T:Array TypeId} {x:bV}
  (hg:o.guard=none) (hd:∀ dd,o.dst=some dd->dd<n) (ho:o.op=.call ⟨.value f,args,T⟩) (hf:okT ts f) (AF:gev ts f=.func (.yield l) #[] #[]) (ha:∀ x∈args.toList,okX ts hp x) (hx:args.map (gev ts)=x.map (ren λ_=>kb))
  (hN:yc<N) (tc:yc<=stop) (Vv:hp kb=some b) (g5:100<=kb) (zV:b.fx) (dj:gR b=false) (hRx:R yc x b.sld) (al5:∀ i b',hp i=some b'->100<=i->gR b'=true->i∈ak sh)
  (h:GLB P G E n sh rS ro ops base (k+1) post (dk ts o.dst (.bool (yc != stop))) (upd hp kb (some b.sld)) (yc+1) K):GLB P G E n sh rS ro ops base k (o::post) ts hp yc K:=by
 intro r a W hi;refine wpListIn_plain hg λK' JS=>?_;obtain ⟨S,hX,cf,sx⟩:=hi.ext;have HR:dom hp kb:=by unfold dom;rw [Vv];simp
 have aeD:=(hi.sat kb b Vv).1;have fM:=hi.gok cK;have hRo:zx o r (dom hp) ts a:=λt _=>hi.rel t
 have hfv:a.eval f=.func (.yield l) #[] #[]:=by
  have:=(ev hRo (x:=f) (by simp [ho,Op.operands,Call.operands]) (yi (hp:=hp) hf) hi.low (λ_ _ h=>h)).1;rw [AF] at this;simpa [ren,aT,aw,aA] using this
 have kv:args.map a.eval=x.map (ren λ_=>r kb):=by
  have e1:args.map a.eval=(args.map (gev ts)).map (ren r):=by
   rw [fw];exact bK λy hy=>(ev hRo (x:=y) (by simp [ho,Op.operands,Call.operands,hy]) (ha y rj) hi.low (λ_ _ h=>h)).1
  rw [e1,hx,fw];exact bK λy _=>jf r (λ_=>kb) y
 have hkS:¬S (r kb):=sx kb b Vv g5 dj
 obtain ⟨fn,tmps,assign,body,hy,nD⟩:=hR yc x b.sld S W (r kb) hN tc hRx (ya zV) fM hX cf (λp hp=>by
   have h1:=hi.keepS p hp;have:=(hi.sat p.1 p.2 h1.1).1;rw [h1.2,tH (m7 p hp).1] at this;exact this) (by rw [<-K1 zV r];exact aeD) hkS
 have eE:(execOp a.eval o).run P W=.ok (.round l fn tmps assign body) W:=by
  simp [execOp,ho,resolve,hfv,Deferred.ofValue,invoke,kv,hy]
 refine ⟨Ho eE,?_⟩;have e:(Fw P ro).round=ro:=rfl;rw [e,Oper.semAt_eq ro a.eval o iR,eE];refine ⟨λh=>ew,?_⟩;have Ld:RoundIn (Fw P ro) (0 - 1) P _ _ _ _ _ _ _:=⟨nD.1,λc cs _=>nD.2 c cs (mJ P _)⟩
 refine nV Ld ?_;rintro e' W' ⟨rfl,JW,yg,mH,Bc,S',RF,TN,K7⟩
 have hD:dom (upd hp kb (some b.sld))=dom hp:=by
  funext q;unfold dom;by_cases e:q=kb
  ·subst e;rw [bj,Vv];simp
  ·rw [aj _ _ e]
 have VE:∀ i,dom hp i->r i<W.heap.size:=λi cv=>by
  unfold dom at cv
  cases hb:hp i with
  | none=>exact absurd hb cv
  | some b=>exact (a9.1 (hi.sat i b hb).1).1
 have zz:GIB G E n sh rS r ⟨ts,upd hp kb (some b.sld),base+8*(k+1),yc+1⟩ a W':=by
  refine ⟨hi.size,by rw [hD];exact hi.rel,λi b' IX=>?_,by rw [hD];exact hi.inj,⟨S',RF,TN,λi b' IX h1 hr hS=>?_⟩,hi.defers,λp hp=>⟨?_,(hi.keepS p hp).2⟩,λi jU=>?_,λi jU hd=>hi.low i jU (by rw [<-hD];exact hd),λy hy=>?_,by show 100<=base+8*(k+1);have:=hi.lowB;simp only at this;omega⟩
  ·rw [hD];by_cases e:i=kb
   ·subst e;have uh:upd hp i (some b.sld) i=some b':=IX;rw [bj] at uh;cases uh;refine ⟨?_,Sv (ya zV)⟩;rw [mH _ (VE i HR) hkS,aeD,K1 zV,tH (ya zV)]
   ·have uh:hp i=some b':=(aj _ _ e).symm.trans IX;have hs:=hi.sat i b' uh;have hdi:dom hp i:=vU;refine ⟨?_,hs.2⟩;by_cases h1:100<=i
    ·cases hr:gR b' with
     | false=>exact (mH _ (VE i hdi) (sx i b' uh h1 hr)).trans hs.1
     | true =>
      obtain ⟨p,hp1,rfl⟩:=aI.1 (al5 i b' uh h1 hr);have h2:=hi.keepS p hp1;have h3:=Bc p hp1;rw [<-h2.2] at h3;exact h3.trans hs.1
    ·have e1:r i=i:=hi.low i zO hdi;have e2:G i=some b':=by rw [<-hi.glob i zO];exact uh
     rw [e1,JW i b' e2];rw [Blk.obj_flat (λx hx=>(cK i b' e2).2 x hx)]
  ·by_cases e:i=kb
   ·subst e;have uh:upd hp i (some b.sld) i=some b':=IX;rw [bj] at uh;cases uh;rw [ya zV] at hr;cases hr
   ·have uh:hp i=some b':=(aj _ _ e).symm.trans IX;have hdi:dom hp i:=vU;rcases K7 _ hS (VE i hdi) with h2|h2
    ·exact sx i b' uh h1 hr h2
    ·exact e (hi.inj i kb hdi HR h2)
  ·have h2:=hi.keepS p hp
   have df:p.1≠kb:=λe=>by
    have h4:=h2.1;rw [e] at h4;have h5:=(m7 p hp).1;have h6:some b=some p.2:=Vv.symm.trans h4;cases h6;rw [dj] at h5;cases h5
   exact (aj _ _ df).trans h2.1
  ·show upd hp kb _ i=G i;rw [aj _ _ zO];exact hi.glob i jU
  ·show upd hp kb _ y=none;have hy':base+8*(k+1)<=y:=hy;have hfy:hp y=none:=hi.free y (by show base+8*k<=y;omega);rw [aj _ _ (λe=>by subst e;rw [Vv] at hfy;cases hfy)];exact hfy
 refine JS _ _ (h r _ W' ?_);have agV:=zz.rel.put (dst:=o.dst) (λe he=>by rw [hi.size];exact hd e he) (v:=.bool (yc != stop)) lR;exact ⟨by have:=hi.size;cases o.dst<;>simp [Act.put,this],by simpa [ren,aT,aw,aA] using agV,zz.sat,zz.inj,zz.ext,by have:=hi.defers;cases o.dst<;>exact this,zz.keepS,zz.glob,zz.low,zz.free,zz.lowB⟩
end
theorem TW (v:Value):aN (λ_=>True) v:=by
 have h0:∀ v,aR (λ_=>True) v:=λv=>by unfold aR;split<;>trivial
 have hF:∀ v,aL (λ_=>True) v:=λv=>by
  unfold aL;split
  ·exact ⟨λx _=>h0 x,λx _=>h0 x⟩
  ·exact h0 _
  ·exact h0 _
 have hA:∀ v,cp (λ_=>True) v:=λv=>by
  unfold cp;split
  ·exact λx _=>hF x
  ·exact hF _
 unfold aN;split
 ·exact λx _=>hA x
 ·exact hA _
theorem PZ {D:gA} {k:Nat} (h:D k) (v:Value):aN D (ren (λ_=>k) v):=qV (D:=λ_=>True) (λ_ _=>h) (TW v)
theorem Kq {r:cI} {D:gA}:∀ (l:List (Tmp×Value)) (ts:eM) (A:bV),(∀ p∈l,p.1<A.size/\aN D p.2)->Rel r D ts { tmps:=A,defers:=[] } ->
  Rel r D (l.foldl (λts p=>upd ts p.1 p.2) ts) { tmps:=l.foldl (λt (p:Tmp×Value)=>t.setIfInBounds p.1 (ren r p.2)) A,defers:=[] }
 | [],_,_,_,h=>h
 | p::l,ts,A,hl,h=>by
  have hp:=hl p zS;refine Kq l (upd ts p.1 p.2) (A.setIfInBounds p.1 (ren r p.2)) (λq hq=>by simpa using hl q (br _ hq)) ?_;exact h.put (dst:=some p.1) (λd hd=>by cases hd;exact hp.1) hp.2
structure IterB (P:Program) (G:Hp) (f:FuncId) (bh:bV) (hp:Hp) (rs:List Nat) (sh:bS) (M:Nat) (R:Nat->Array Value->Blk->Prop):Prop where
 enter:∀ a w,(callFunc f a).run P w=.ok (.enter f a) w
 cids:∀ x∈bh,da x=true/\aN (dom (rst hp rs)) x
 closed:∀ k b,rst hp rs k=some b->b.ids (dom (rst hp rs))
 shd:∀ p∈sh,p.1∈rs/\hp p.1=some p.2/\gR p.2=true/\100<=p.1
 run:∀ (E:Ext) (l stop:Nat) r S W,GOK G W->Sat r (dom (rst hp rs)) (rst hp rs) W->Inj r (dom (rst hp rs))->(∀ k,k<100->dom (rst hp rs) k->r k=k)->zy P G E l sh r M R stop->E.X 0 S W->(∀ k,S k->k<W.heap.size) ->
  (∀ i b,rst hp rs i=some b->100<=i->gR b=false->¬S (r i)) ->
  jD P f (#[Value.func (.yield l) #[] #[]]++bh.map (ren r)) W λe W'=>(∃ v,e=.returned v)/\∃ S',E.X (min (stop+1) M) S' W'
section
variable {P:Program} {G:Hp}
theorem XQ {f:FuncId} {fn:Func} {c:Code} {bh:bV} {hp:Hp} {rs:List Nat} {sh:bS} {M:Nat} {R:Nat->Array Value->Blk->Prop} {B:Nat} {v:Value} (hG:∀ k,k<100->hp k=G k) (hf:P.funcs[f]? = some fn) (hb:fn.body=some c) (eP:∀ a w,(callFunc f a).run P w=.ok (.enter f a) w)
  (ha:∀ x∈bh,da x=true/\aN (dom (rst hp rs)) x) (mM:∀ k b,rst hp rs k=some b->b.ids (dom (rst hp rs))) (m7:∀ p∈sh,p.1∈rs/\hp p.1=some p.2/\gR p.2=true/\100<=p.1) (hn:bh.size+1<=fn.ntmps) (hB:100<=B) (dx:∀ x,B<=x->rst hp rs x=none)
  (h:∀ (E:Ext) (l stop:Nat) (r:cI),zy P G E l sh r M R stop->GB P G E fn.ntmps sh r none c ⟨λt=>(#[Value.func (.yield l) #[] #[]]++bh).getD t undef,rst hp rs,B,0⟩
   (λe s=>(e=.normal\/e=.ret)/\qa P fn.results.toList s.ts s.hp=some v/\s.yc=min (stop+1) M)):IterB P G f bh hp rs sh M R:=by
 refine ⟨eP,ha,mM,m7,λE l stop r S W fM hZ gu ba hR hX hS kW=>callsIn_of_wp_marks hf hb ⟨fn,hf⟩ ?_⟩;have TV:∀ p∈sh,rst hp rs p.1=some p.2:=λp hp1=>by rw [LH (m7 p hp1).1];exact (m7 p hp1).2.1
 have hi:GIB G E fn.ntmps sh r r ⟨λt=>(#[Value.func (.yield l) #[] #[]]++bh).getD t undef,rst hp rs,B,0⟩
   { tmps:=(#[Value.func (.yield l) #[] #[]]++bh.map (ren r))++Array.replicate (fn.ntmps - (#[Value.func (.yield l) #[] #[]]++bh.map (ren r)).size) undef,defers:=[] } W:=by
  have yg:(#[Value.func (.yield l) #[] #[]]++bh.map (ren r)).size=(#[Value.func (.yield l) #[] #[]]++bh).size:=zS;have alS:#[Value.func (.yield l) #[] #[]]++bh.map (ren r)=(#[Value.func (.yield l) #[] #[]]++bh).map (ren r):=vE;refine ⟨?_,λt=>?_,hZ,gu,⟨S,hX,hS,kW⟩,rfl,λp hp1=>⟨TV p hp1,rfl⟩,λk hk=>?_,ba,dx,hB⟩
  ·simp only [BA,BC,yg];simp;omega
  ·right
   exact DV
  ·exact xf
 refine wpIn_mono (h E l stop r hR r _ W hi) ?_;rintro e a' W' ⟨s',r',⟨he,hr,hy⟩,cv⟩;obtain ⟨S',RF,MP,HM⟩:=cv.ext
 have cm:LeavesIn (Fw P none) 0 P fn a'.tmps (λe W'=>(∃ v,e=.returned v)/\∃ S',E.X (min (stop+1) M) S' W') [] .returning W' :=
  ⟨_,jP (fn:=fn) cv.rel cv.sat hr,⟨_,rfl⟩,S',by rw [<-hy];exact RF⟩
 have pZ:=cv.defers;rcases he with rfl|rfl
 ·show LeavesInM _ _ _ _ _ _ a'.defers _ _;rw [pZ];exact cm
 ·show LeavesInM _ _ _ _ _ _ a'.defers _ _;rw [pZ];exact cm
variable {C:Ctx} {n:Nat} {d:List Deferred} {s:GS} {K:kV}
theorem Jx {t:Tmp} {ps:Array Tmp} {assign body:Code} {f:FuncId} {bh:bV} {VA:Hp} {rs:List Nat} {sh:bS} {M:Nat} {R:Nat->Array Value->Blk->Prop} (hg:s.ts t=.func (.func f) #[] bh) (ny:IterB P C.G f bh VA rs sh M R)
  (hI:∀ k,(k<100\/k∈rs)->VA k=s.hp k\/∃ b,s.hp k=some b/\b.fx/\VA k=some b.sld)
  (yH:∀ c x b,R c x b->x.size=ps.size) (JY:∀ p∈ps,p<n) (fX:eM) (hp0:Hp) (Hd:Nat->Hp->Prop) (kb:cI) (B:Nat) (N:Nat) (hN:N<=M)
  (hw:Weak C s ⟨fX,hp0,B,s.yc⟩) (hH0:Hd 0 hp0) (kW:∀ k∈rs,dom s.hp k/\(k∈ak sh\/hp0 k=none)) (Gz:∀ k∈rs,100<=k)
  (hHf:∀ c fP,Hd c fP->∀ x,B<=x->fP x=none) (Vv:∀ c fP,c<=N->Hd c fP->fP (kb c)=none/\100<=kb c/\kb c<B)
  (hHs:∀ c fP,Hd c fP->∀ p∈sh,∃ b,fP p.1=some b/\b.fx/\b.sld=p.2)
  (rounds:∀ c x b fP,c<N->R c x b->gR b=true->Hd c fP->∀ (C1:Ctx) (l:Nat),C1.G=C.G->C1.hp0=upd fP (kb c) (some b)->C1.Y=none->GW P C1 n [] (some l) assign ⟨bC ps.toList (x.map (ren λ_=>kb c)).toList fX,upd fP (kb c) (some b),B,0⟩
   (dU (λs1=>∀ C2:Ctx,C2.G=C.G->C2.hp0=upd fP (kb c) (some b)->C2.Y=none->GW P C2 n [] (some l) body s1 (dU (λs2=>∃ hp2 ρ,Hd (c+1) hp2/\hp2 (kb c)=some b/\WeakR C1 ρ s2 ⟨λ_=>eY,hp2,B,s2.yc⟩) (λ_ _=>False))) (λ_ _=>False)))
  (fin:(N=M/\∀ fP,Hd N fP->K .normal ⟨fX,fP,B,s.yc⟩)\/(N<M/\∀ x b fP,R N x b->gR b=true->Hd N fP->∀ (C1:Ctx) (l:Nat),C1.G=C.G->C1.hp0=upd fP (kb N) (some b)->C1.Y=none->GW P C1 n [] (some l) assign ⟨bC ps.toList (x.map (ren λ_=>kb N)).toList fX,upd fP (kb N) (some b),B,0⟩
   (dU (λs1=>∀ C2:Ctx,C2.G=C.G->C2.hp0=upd fP (kb N) (some b)->C2.Y=none->GW P C2 n [] (some l) body s1 (λe s2=>(eV e).isSome=true/\(∀ t,aN (dom s2.hp) (fX t))/\s2.hp (kb N)=some b/\(∀ p∈sh,s2.hp p.1=fP p.1)/\K e ⟨fX,s2.hp,s2.B,s.yc⟩)) (λ_ _=>False)))) (hYn:C.Y≠some .still:=by first|assumption|(intro h;simp_all [YG.still])) :
  GW P C n d none (.rangeFunc (.tmp t) ps assign body) s K:=by
 intro r a W jM;have hi:=jM.weak hw;obtain ⟨So,ms,hX0,MQ,sx,⟨pZ,BS⟩,sv⟩:=jM.ri.ext
 have JU:a.eval (.tmp t)=.func (.func f) #[] (bh.map (aA r)):=by
  exact w9
 have dS:bh.map (aA r)=bh.map (ren r):=bK λx hx=>(hU (ny.cids x hx).1).symm;rw [dS] at JU;refine wpIn_rangeFunc ?_;rintro fn ⟨Xg,MX⟩;obtain ⟨rec,n9⟩:∃ rec:LoopState->Option Code->Loop,rec=λst pe=>{ state:=st,pending:=pe,fn,tmps:=a.tmps,params:=ps,assign,body,defers:=W.heap.size }:=⟨_,rfl⟩
 obtain ⟨W1,hW1⟩:∃ W1,(W.alloc (.deferred (some []))).alloc (.loop (rec .ready none))=W1:=⟨_,rfl⟩
 have hL1:W1.heap[W.heap.size+1]? = some (.loop (rec .ready none)):=by
  exact wZ
 have hK1:W1.heap[W.heap.size]? = some (.deferred (some [])):=by
  exact w8
 have amb:W1.heap.size=W.heap.size+2:=by rw [<-hW1];simp
 have ju:Below W.heap.size W W1:=by
  exact wV
 let l:=W.heap.size+1;let D0:=W.heap.size;let AT:Nat->Prop:=λj=>∃ i,i∈rs/\i∉ak sh/\r i=j;let Lv:LoopState->Option Code->World->Prop:=λst pe V=>V.heap[l]? = some (.loop (rec st pe))/\V.heap[D0]? = some (.deferred (some []))
 let XX:Nat->(Nat->Prop)->World->Prop:=λc S V=>(∀ k,So k->S k)/\(∀ D∈ms,S D)/\S l/\S D0 /\
  ((c<=N/\∃ fP rc,Hd c fP/\(∀ p∈sh,rc p.1=r p.1)/\(∀ t,aN (dom fP) (fX t))/\(∀ i,dom fP i->S (rc i))/\tf S V (λV'=>Own0 C d So ms s.yc a rc fX fP V'/\Lv .ready none V')) \/
  (c=N+1/\∃ e mO BE rc,(eV e).isSome=true/\K e ⟨fX,mO,BE,s.yc⟩/\(∀ x,BE<=x->mO x=none)/\100<=BE/\(∀ i,dom mO i->S (rc i))/\tf S V (λV'=>Own0 C d So ms s.yc a rc fX mO V'/\V'.heap[D0]? = some (.deferred (some []))/\∀ j,eV e=some j->Lv .done (some j) V')))
 let E:Ext:=⟨XX,λc S V V' h hs os tape output size=>⟨h.1,h.2.1,h.2.2.1,h.2.2.2.1,h.2.2.2.2.imp (λ⟨hc,fP,rc,h0,h1,h2,h3,h4⟩=>⟨hc,fP,rc,h0,h1,h2,h3,h4.trans (λ_ h=>h) hs os tape output size⟩)
  (λ⟨hc,e,mO,BE,rc,h1,h2,h3,h4,h5,h6⟩=>⟨hc,e,mO,BE,rc,h1,h2,h3,h4,h5,h6.trans (λ_ h=>h) hs os tape output size⟩)⟩⟩
 have sub:∀ i,dom hp0 i->dom s.hp i:=λi hd=>by
  have yY:hp0 i=none\/hp0 i=s.hp i:=by
   exact xK
  rcases yY with e|e
  ·exact absurd e hd
  ·unfold dom at *;rw [<-e];exact hd
 have zg:Own0 C d So ms s.yc a r fX hp0 W1:=⟨hi.ri.rel,λk b hk=>⟨(ju.block _ (hi.ri.lt (k:=k) (by unfold dom;show hp0 k≠none;rw [hk];simp))).trans (hi.ri.sat k b hk).1,(hi.ri.sat k b hk).2⟩,hi.ri.inj,
  C.E.ok _ _ _ _ hX0 (λk hk=>ju.block k (MQ k hk)) ju.os ju.tape ju.output ju.size,λi hd h1=>sx i (sub i hd) h1,
  λD hD=>(ju.block D (a9.1 (sv D hD).1).1).trans (sv D hD).1,hi.ri.keep,hi.ri.glob,hi.ri.low⟩
 have Nc:∀ i,dom s.hp i->AT (r i)->i∈rs/\i∉ak sh:=λi hd ⟨j,hj,hj2,e⟩=>by
  have:=jM.ri.inj j i (kW j hj).1 hd e;exact this▸⟨hj,hj2⟩
 let S1:Nat->Prop:=λk=>k<W1.heap.size/\¬AT k;have zA:∀ k,AT k->k<W.heap.size:=λk ⟨i,jU,_,e⟩=>e▸jM.ri.lt (kW i jU).1;have Oe:∀ k,So k->S1 k:=λk hk=>⟨rh,λ⟨i,jU,_,e⟩=>sx i (kW i jU).1 (Gz i jU) (e▸hk)⟩
 have Og:∀ D∈ms,S1 D:=λD hD=>⟨vY,λ⟨i,jU,_,e⟩=>jM.ri.ne_mark (kW i jU).1 (sv D hD).1 e⟩
 have s1l:S1 l:=⟨zO,λhc=>lP⟩
 have s1D:S1 D0:=⟨zO,λhc=>lP⟩
 have Of:∀ i,dom hp0 i->S1 (r i):=λi hd=>⟨vJ,λhc=>by
  have:=Nc i (sub i hd) hc;exact hd ((kW i this.1).2.resolve_left this.2)⟩
 have afm:∀ {fP:Hp} {rc:cI} {V:World},Own0 C d So ms s.yc a rc fX fP V->(∀ t,fX t=eY\/aN (dom fP) (fX t)):=λh t=>(h.ri t).imp id And.right;have aeS:∀ D:Nat->Prop,aN D eY:=λD=>by simp [eY,aN,cp,aL,aR]
 have X0:XX 0 S1 W1:=⟨Oe,Og,s1l,s1D,.inl ⟨fC _,hp0,r,hH0,λ_ _=>rfl,λt=>(afm zg t).elim (λe=>by rw [e];exact aeS _) id,Of,λV k1 k2 k3 k4 k5=>⟨zg.supp Oe Of Og V k1 k2 k3 k4 k5,(k1 l s1l).trans hL1,(k1 D0 s1D).trans hK1⟩⟩⟩
 have MN:∀ {rc:cI} {fP:Hp} {V:World},Sat rc (dom fP) fP V->(∀ k,k<100->fP k=C.G k)->(∀ k,k<100->dom fP k->rc k=k)->GOK C.G V:=λ{rc fP V} h1 h2 h3 k b hk=>by
  exact wY
 have PK:¬So l:=λh=>by have:=MQ _ h;omega
 -- one round
 have nD:zy P C.G E l sh r M R N:=by
  intro c x b S0 V a' hcM hc hRx nB fM hXc aqE arM ha' IY;obtain ⟨amE,ar4,kl0,kD0,mF⟩:=hXc;have hcN:c<=N:=hc
  obtain ⟨yz,fP,rc,RD,arN,awJ,XE,lj⟩:c<=N/\∃ fP rc,Hd c fP/\(∀ p∈sh,rc p.1=r p.1)/\(∀ t,aN (dom fP) (fX t))/\(∀ i,dom fP i->S0 (rc i))/\tf S0 V (λV'=>Own0 C d So ms s.yc a rc fX fP V'/\Lv .ready none V'):=by
   exact xA
  obtain ⟨zW,hl,hD⟩:=lj.here;obtain ⟨hk0,vm,hkB⟩:=Vv c fP hcN RD
  -- VH block axE is handed on
  let S:Nat->Prop:=λk=>S0 k\/k=a';let hq:Hp:=upd fP (kb c) (some b);let rq:Nat->Nat:=upd rc (kb c) a';have haV:a'<V.heap.size:=(a9.1 ha').1;have alU:∀ i,dom fP i->i≠kb c:=λi hd e=>hd (by rw [e];exact hk0);have VG:∀ i,dom fP i->rq i=rc i:=λi hd=>aj _ _ (alU i hd);have hqo:∀ i,dom fP i->hq i=fP i:=λi hd=>aj _ _ (alU i hd);have hqk:hq (kb c)=some b:=bj _ _ _;have rqk:rq (kb c)=a':=bj _ _ _;have adz:∀ i,dom fP i->dom hq i:=λi hd=>by have:=hqo i hd;unfold dom at *;rw [this];exact hd
  have inq:∀ i,dom hq i->i=kb c\/dom fP i:=λi hd=>by
   by_cases e:i=kb c
   ·exact .inl e
   ·refine .inr ?_;have:hq i=fP i:=aj _ _ e;unfold dom at *;rw [<-this];exact hd
  have dj:Own0 C d So ms s.yc a rq fX hq V:=by
   refine ⟨zW.ri.mono adz VG,λi b' IX=>?_,λi j hdi hdj e=>?_,zW.X,λi hd h1 hS=>?_,zW.mks,λi hd=>?_,λi jU=>?_,λi jU hd=>?_⟩
   ·by_cases e:i=kb c
    ·subst e;rw [hqk] at IX;cases IX;exact ⟨by rw [rqk,tH nB];exact ha',Sv nB⟩
    ·have uh:fP i=some b':=(aj _ _ e).symm.trans IX;have hs:=zW.sat i b' uh;have hdi:dom fP i:=vU;exact ⟨by rw [VG i hdi,Blk.obj_congr VG hs.2];exact hs.1,Blk.ids_mono adz hs.2⟩
   ·rcases inq i hdi with e1|e1<;>rcases inq j hdj with e2|e2
    ·rw [e1,e2]
    ·rw [e1,rqk,VG j e2] at e;exact absurd (e▸XE j e2) IY
    ·rw [e2,rqk,VG i e1] at e;exact absurd (e▸XE i e1) IY
    ·rw [VG i e1,VG j e2] at e;exact zW.inj i j e1 e2 e
   ·rcases inq i hd with e1|e1
    ·rw [e1,rqk] at hS;exact IY (amE _ hS)
    ·rw [VG i e1] at hS;exact zW.sep i e1 h1 hS
   ·have:=zW.keep i hd;exact ⟨adz i this.1,(VG i this.1).trans this.2⟩
   ·show upd fP (kb c) (some b) i=_;rw [aj _ _ zO];exact zW.glob i jU
   ·rcases inq i hd with e1|e1
    ·omega
    ·rw [VG i e1];exact zW.low i jU e1
  have Lk:∀ k,So k->S k:=λk hk=>.inl (amE k hk);have L8:∀ D∈ms,S D:=λD hD=>.inl (ar4 D hD);have kl:S l:=.inl kl0;have kD:S D0:=.inl kD0;have Gv:∀ k,S k->k<V.heap.size:=λk hk=>hk.elim (aqE k) λe=>by rw [e];exact haV
  have nC:∀ i,dom hq i->S (rq i):=λi hd=>by
   rcases inq i hd with e1|e1
   ·rw [e1,rqk];exact .inr rfl
   ·rw [VG i e1];exact .inl (XE i e1)
  have PN:∀ y,B<=y->hq y=none:=λy hy=>by
   show upd fP (kb c) (some b) y=none;rw [aj _ _ zO];exact hHf c fP RD y hy
  have hxm:=yH c x b hRx;have hy:=run_yield (P:=P) (args:=x.map (ren λ_=>a')) hl (by rw [n9];simpa using hxm);rw [n9] at hy;refine ⟨fn,_,assign,body,hy,nE ⟨Xg,MX⟩ MX ?_⟩
  have XF:=Kq (r:=rq) (D:=dom hq) (ps.toList.zip (x.map (ren λ_=>kb c)).toList) fX a.tmps (λp hp1=>⟨wL,by
   have:=(qp hp1).2;simp only [iH,aD] at this;obtain ⟨v,_,e⟩:=this;rw [<-e];exact PZ (by unfold dom;rw [hqk];simp) v⟩) dj.ri
  have htm:(ps.zip (x.map (ren λ_=>a'))).foldl (λt (p:Tmp×Value)=>t.setIfInBounds p.1 p.2) a.tmps=(ps.toList.zip (x.map (ren λ_=>kb c)).toList).foldl (λt (p:Tmp×Value)=>t.setIfInBounds p.1 (ren rq p.2)) a.tmps:=by
   rw [<-nM,uP]
   have e1:(x.map (ren λ_=>a')).toList=(x.map (ren λ_=>kb c)).toList.map (ren rq):=by
    simp only [iH,lx];refine dK λv _=>?_;show ren (λ_=>a') v=ren rq (ren (λ_=>kb c) v);rw [jf];show _=ren (λ_=>rq (kb c)) v;rw [rqk]
   rw [e1,List.zip_map_right,List.foldl_map]
   rfl
  have XH:((ps.zip (x.map (ren λ_=>a'))).foldl (λt (p:Tmp×Value)=>t.setIfInBounds p.1 p.2) a.tmps).size=n:=by
   rw [<-nM,mE,jM.ri.size]
  let im:Nat->Prop:=imO rq hq
  let RR:Ending->World->Prop:=λe W'=>e=.returned (.bool (c != N))/\GOK C.G W'/\V.heap.size<=W'.heap.size/\(∀ k,k<V.heap.size->¬S0 k->W'.heap[k]? = V.heap[k]?)/\(∀ p∈sh,W'.heap[r p.1]? = V.heap[r p.1]?) /\
      ∃ S',XX (c+1) S' W'/\(∀ k,S' k->k<W'.heap.size)/\∀ k,S' k->k<V.heap.size->S0 k\/k=a'
  let C1:Ctx:=⟨iI V im,hq,rq,C.G,none⟩
  have ltV:∀ i,dom hq i->rq i<V.heap.size:=λi hd=>Gv _ (nC i hd)
  have gi1:GI P C1 n [] rq ⟨bC ps.toList (x.map (ren λ_=>kb c)).toList fX,hq,B,0⟩ { tmps:=(ps.zip (x.map (ren λ_=>a'))).foldl (λt (p:Tmp×Value)=>t.setIfInBounds p.1 p.2) a.tmps,defers:=[] } V:=by
   exact xx
  have both:∀ (Kb:kV),GW P C1 n [] (some l) assign ⟨bC ps.toList (x.map (ren λ_=>kb c)).toList fX,hq,B,0⟩ (dU (λs1=>∀ C2:Ctx,C2.G=C.G->C2.hp0=hq->C2.Y=none->GW P C2 n [] (some l) body s1 Kb) (λ_ _=>False)) ->
    (∀ e s2 (r2:cI) (V1 V2:World) (a1 a2:Act) (r1:cI) (ts1:eM) (hp1:Hp) (y1:Nat) (D1:gA),(∀ k,k<V.heap.size->D1 k->imO r1 hp1 k)->¬D1 l->Kb e s2->RI ⟨iI V im,hq,rq,C.G,none⟩ n [] r1 ts1 hp1 y1 a1 V1 ->
     GI P ⟨iI (V1.putObj l (.loop (rec .busy none))) D1,hq,rq,C.G,none⟩ n [] r2 s2 a2 V2->lu (Fs P) 0 P Xg l RR e a2 V2) ->
    assign.wpIn ((Fs P).inRound l) 0 P (Exit.then (λa₁ w₁=>∃ w₂,(Instr.beginRound l).run P w₁=.ok () w₂/\body.wpIn ((Fs P).inRound l) 0 P (lu (Fs P) 0 P Xg l RR) a₁ w₂) (λ_ _ _=>False))
     { tmps:=(ps.zip (x.map (ren λ_=>a'))).foldl (λt (p:Tmp×Value)=>t.setIfInBounds p.1 p.2) a.tmps,defers:=[] } V:=λKb hgw cm=>by
   refine wpIn_mono (hgw rq _ V gi1) ?_;rintro e a1 V1 ⟨s1,r1,nz,gi⟩
   cases e with
   | normal =>
    obtain ⟨T1,m1,⟨Vp,os1,tp1,ou1,sz1,sm1⟩,ago,UU,df1,ZZ⟩:=gi.ri.ext
    have HU:V1.heap[l]? = some (.loop (rec .ready none)):=by
     exact Et
    refine ⟨_,run_beginRound HU me,?_⟩;have hrb:{ rec .ready none with state:=.busy }=rec .busy none:=me;rw [hrb];have PS:l<V1.heap.size:=(a9.1 HU).1;let D1:Nat->Prop:=λk=>imO r1 s1.hp k\/k∈m1;let C2:Ctx:=⟨iI (V1.putObj l (.loop (rec .busy none))) D1,hq,rq,C.G,none⟩
    have ug:GI P C2 n [] r1 s1 a1 (V1.putObj l (.loop (rec .busy none))):=by
     exact xG
    refine wpIn_mono (nz C2 rfl rfl rfl r1 a1 _ ug) ?_;rintro e2 a2 V2 ⟨s2,r2,mN,gi3⟩;refine cm e2 s2 r2 V1 V2 a1 a2 r1 s1.ts s1.hp s1.yc D1 (λk hk hD=>?_) (λhD=>?_) mN gi.ri gi3
    ·rcases hD with h|h
     ·exact h
     ·have h2:=(ZZ k h).2.1;rw [Vp] at h2;obtain ⟨i,hd,e⟩:=aO λhc=>h2 ⟨hk,hc⟩;have:dom s1.hp i/\r1 i=rq i:=gi.ri.keep i hd;exact ⟨i,this.1,this.2.trans e⟩
    ·rcases hD with h|h
     ·exact gi.ri.not_loop HU h
     ·have:=(ZZ l h).1;rw [HU] at this;cases this
   | _=>exact nz.elim
  have post:∀ (st:LoopState) (pe:Option Code) (r2:cI) (V1 V2:World) (a1 a2:Act) (r1:cI) (ts1 ts2:eM) (hp1 hp2:Hp) (y1 y2:Nat) (D1:gA),(∀ k,k<V.heap.size->D1 k->imO r1 hp1 k)->¬D1 l->RI ⟨iI V im,hq,rq,C.G,none⟩ n [] r1 ts1 hp1 y1 a1 V1 ->
    RI ⟨iI (V1.putObj l (.loop (rec .busy none))) D1,hq,rq,C.G,none⟩ n [] r2 ts2 hp2 y2 a2 V2->hp2 (kb c)=some b->(∀ p∈sh,∃ b,hp2 p.1=some b/\b.fx/\b.sld=p.2) ->
    V2.heap[l]? = some (.loop (rec .busy none))/\GOK C.G (V2.putObj l (.loop (rec st pe)))/\V.heap.size<=(V2.putObj l (.loop (rec st pe))).heap.size/\(∀ k,k<V.heap.size->¬S0 k->(V2.putObj l (.loop (rec st pe))).heap[k]? = V.heap[k]?)/\(∀ p∈sh,(V2.putObj l (.loop (rec st pe))).heap[r p.1]? = V.heap[r p.1]?) /\
    (∀ p∈sh,r2 p.1=r p.1) /\
    ∃ S':Nat->Prop,(∀ k,So k->S' k)/\(∀ D∈ms,S' D)/\S' l/\S' D0/\(∀ i,dom hp2 i->S' (r2 i))/\tf S' (V2.putObj l (.loop (rec st pe))) (λV'=>Own0 C d So ms s.yc a r2 fX hp2 V'/\Lv st pe V') /\
     (∀ k,S' k->k<(V2.putObj l (.loop (rec st pe))).heap.size)/\∀ k,S' k->k<V.heap.size->S k:=λst pe r2 V1 V2 a1 a2 r1 ts1 ts2 hp1 hp2 y1 y2 D1 HL sr AH N8 agJ agK=>by
   obtain ⟨_,q1,q2,q3,q4,q5,q6⟩:=Bo (L2:=rec st pe) jM.flat dj PK Gv Lk L8 nC hl AH HL sr N8;have sz:(V2.putObj l (.loop (rec st pe))).heap.size=V2.heap.size:=gS _ _ _;have Xz:∀ k,¬S k->¬imO rq hq k:=λk hk ⟨i,hd,e⟩=>hk (e▸nC i hd);have hr2:∀ i,dom hq i->r2 i=rq i:=λi hd=>(N8.keep i hd).2
   have hsd:∀ p∈sh,dom fP p.1:=λp hp1=>by
    obtain ⟨b1,h1,_⟩:=hHs c fP RD p hp1;unfold dom;rw [h1];simp
   have al4:∀ p∈sh,r2 p.1=r p.1:=λp hp1=>by
    have hd:=hsd p hp1;rw [hr2 p.1 (adz _ hd),VG _ hd,arN p hp1]
   refine ⟨q1,q6,by rw [sz];exact q4,λk hk ary=>?_,λp hp1=>?_,al4,λk=>S k\/(V.heap.size<=k/\k<V2.heap.size),λk hk=>.inl (Lk k hk),λD hD=>.inl (L8 D hD),.inl kl,.inl kD,λi hd=>?_,?_,λk hk=>?_,λk hk cA=>?_⟩
   ·by_cases e:k=a'
    ·subst e;have h1:=(q2.sat (kb c) b agJ).1;rw [hr2 (kb c) (by unfold dom;rw [hqk];simp),rqk,tH nB] at h1;rw [h1,ha']
    ·have alT:¬S k:=λh=>h.elim ary e;exact q5 k hk (Xz k alT) (λe=>alT (e▸kl))
   ·obtain ⟨b1,h1,h2,h3⟩:=agK p hp1;have h4:=(q2.sat p.1 b1 h1).1;rw [al4 p hp1,K1 h2,h3] at h4;rw [h4,arM p hp1]
   ·exact sg
   ·exact Eh
   ·exact xd
   ·exact hk.resolve_right zO
  by_cases hcn:c<N
  ·refine both _ (rounds c x b fP hcn hRx nB RD C1 l rfl rfl rfl) ?_;intro e s2 r2 V1 V2 a1 a2 r1 ts1 hp1 y1 D1 HL sr hk AH ug
   cases e with
   | normal =>
    obtain ⟨hp2,ρ,alf,mN,hwk⟩:=hk;have gi3:=ug.rename (WeakR.ctx (C:=C1) rfl rfl hwk);obtain ⟨p1,p2,p3,p4,p4',ana,S',p5,p6,p7,p8,p9,kX,ll,m8⟩:=post .ready none (λk=>r2 (ρ k)) V1 V2 a1 a2 r1 ts1 _ hp1 _ y1 _ D1 HL sr AH gi3.ri mN (hHs (c+1) hp2 alf);have cm:=run_endRound (P:=P) none p1;rw [n9] at cm p2 p3 p4 p4' kX ll;have alZ:=kX.here.1;refine ⟨_,_,cm,?_,p2,p3,p4,p4',S',⟨p5,p6,p7,p8,.inl ⟨hcn,hp2,λk=>r2 (ρ k),alf,ana,λt=>(afm alZ t).elim (λe=>by rw [e];exact aeS _) id,p9,?_⟩⟩,ll,m8⟩
    ·have h2:(c != N)=true:=by simp;omega
     rw [h2];rfl
    ·simpa [n9] using kX
   | _=>exact hk.elim
  ·obtain rfl:c=N:=zO;rcases fin with ⟨e,_⟩|⟨_,PM⟩
   ·omega
   ·refine both _ (PM x b fP hRx nB RD C1 l rfl rfl rfl) ?_;intro e s2 r2 V1 V2 a1 a2 r1 ts1 hp1 y1 D1 HL sr hk AH ug;obtain ⟨nz,mN,Vt,hk5,yZ⟩:=hk
    cases ho:eV e with
    | none=>rw [ho] at nz;cases nz
    | some j =>
     obtain ⟨p1,p2,p3,p4,p4',ana,S',p5,p6,p7,p8,p9,kX,ll,m8⟩:=post .done (some j) r2 V1 V2 a1 a2 r1 ts1 _ hp1 _ y1 _ D1 HL sr AH ug.ri Vt (λp hp1=>by rw [hk5 p hp1];exact hHs c fP RD p hp1);have cm:=run_endRound (P:=P) (some j) p1;rw [n9] at cm p2 p3 p4 p4' kX ll
     have hR:∃ v w',(Instr.endRound l (some j)).run P V2=.ok v w'/\RR (.returned v) w':=by
      refine ⟨_,_,cm,?_,p2,p3,p4,p4',S',⟨p5,p6,p7,p8,.inr ⟨rfl,e,s2.hp,s2.B,r2,nz,yZ,ug.free,ug.low,p9,?_⟩⟩,ll,m8⟩
      ·simp
      ·exact xb
     exact xO
 -- behind VH iterator
 have hIs:∀ k b,rst VA rs k=some b->∃ b0,s.hp k=some b0/\(b0=b\/(b0.fx/\b=b0.sld)):=λk b hk=>by
  have hc:k<100\/k∈rs:=by
   unfold rst at hk;split at hk
   ·assumption
   ·cases hk
  have g8:VA k=some b:=iO hk;rcases hI k hc with e|⟨b0,e1,e2,e3⟩
  ·exact ⟨b,by rw [<-e];exact g8,.inl rfl⟩
  ·rw [g8] at e3;cases e3;exact ⟨b0,e1,.inr ⟨e2,rfl⟩⟩
 have tW:∀ k,dom (rst VA rs) k->dom s.hp k:=λk hk=>by
  unfold dom at hk
  cases hb:rst VA rs k with
  | none=>exact absurd hb hk
  | some b=>obtain ⟨b0,h1,_⟩:=hIs k b hb;unfold dom;rw [h1];simp
 refine ⟨l,[H9 D0],W1,{ target:=.fn (.func f) (bh.map (ren r)),args:=#[.func (.yield l) #[] #[]] },W1,f,#[Value.func (.yield l) #[] #[]]++bh.map (ren r),W1,?_,?_,λf' Vr=>?_,?_,λh=>ew,?_⟩
 ·exact wS
 ·exact xk
 ·exact xj
 ·simp [invoke,go_sem,ny.enter]
 ·have MZ:Sat r (dom (rst VA rs)) (rst VA rs) W1:=λk b hk=>by
   obtain ⟨b0,h1,h2⟩:=hIs k b hk;have h3:=jM.ri.sat k b0 h1;have h4:=(ju.block _ (jM.ri.lt (k:=k) (by unfold dom;rw [h1];simp))).trans h3.1;refine ⟨?_,ny.closed k b hk⟩;rcases h2 with rfl|⟨h5,rfl⟩
   ·exact h4
   ·rw [h4,K1 h5,tH (ya h5)]
  have HQ:=ny.run E l N r S1 W1 (MN zg.sat zg.glob zg.low) MZ (λk l' hk hl=>jM.ri.inj k l' (tW k hk) (tW l' hl)) (λk hk hd=>jM.ri.low k hk (tW k hd)) nD X0 (λk hk=>hk.1) (λi b IX h1 nB hS=>hS.2 ?_)
  ·refine nT (HQ:CallsIn (Fw P none) 0 P _ _ _ _) ?_;rintro e V ⟨⟨v,rfl⟩,S',hX⟩;obtain ⟨Lk,L8,kl,kD,mF⟩:=hX
   have Py:∀ (st:LoopState) (pe:Option Code) (rc:cI) (mO:Hp) (BE:Nat),st≠.busy->(∀ x,BE<=x->mO x=none)->100<=BE->Own0 C d So ms s.yc a rc fX mO V->Lv st pe V ->
     (Instr.endLoop l).run P V=.ok pe (V.putObj l (.loop { rec st pe with state:=.exhausted }))/\GI P C n d rc ⟨fX,mO,BE,s.yc⟩ { a with defers:=[H9 D0]++a.defers } (V.putObj l (.loop { rec st pe with state:=.exhausted })):=λst pe rc mO BE tc dx RC dj ⟨hl,hD⟩=>by
    exact xJ
   rcases mF with ⟨yz,fP,rc,RD,_,_,nC,lj⟩|⟨yz,e,mO,BE,rc,ho,hk,dx,RC,nC,lj⟩
   ·obtain ⟨dj,Z6⟩:=lj.here;have Xy:min (N+1) M=N:=zO;rw [Xy] at RD;obtain ⟨f1,f2⟩:=Py .ready none rc fP B zS (hHf N fP RD) hw.low dj Z6;rcases fin with ⟨_,hK⟩|⟨cA,_⟩
    ·exact ⟨none,_,f1,_,rc,hK fP RD,f2⟩
    ·omega
   ·obtain ⟨dj,_,Z6⟩:=lj.here;exact EK
  ·have hm:i∈rs:=by
    unfold rst at IX;split at IX
    ·rename_i h;exact h.resolve_left zO
    ·cases IX
   refine ⟨i,hm,λhk=>?_,rfl⟩;obtain ⟨p,hp1,rfl⟩:=aI.1 hk;have h5:=ny.shd p hp1;have h6:VA p.1=some b:=iO IX;rw [h5.2.1] at h6;cases h6;rw [h5.2.2.1] at nB;cases nB
end
end Go.Gy
namespace Go.Gy
open Go Go.RowKit Go.Proofs.Tryz
theorem ae {p:Prop} (h:p:=by kernel_rfl):p:=h
theorem oz {p:Prop} (h:p:=by simp only [fdX,underlying24,aZ sizeOf3];kernel_rfl):p:=h
theorem CT {p:Prop} (h:p:=by simp only [fdX,underlying33,aZ sizeOf3];kernel_rfl):p:=h
theorem B9 {p:Prop} (h:p:=by simp only [fdX,underlying50,aZ sizeOf48];kernel_rfl):p:=h
theorem CA {p:Prop} (h:p:=by simp only [fdX,underlying196,aZ sizeOf3];kernel_rfl):p:=h
theorem follows:prog.follows .mixedOrders=true:=ae
section
variable {P:Program} {C:Ctx} {n:Nat} {d:List Deferred} {ro:Option Nat} {s:GS} {K:kV}
theorem gwS {x y:Code} (h:GW P C n d ro x s (dU (λs'=>GW P C n d ro y s' K) K)):GW P C n d ro (.seq x y) s K:=te h
theorem gwK (h:K .normal s):GW P C n d ro .skip s K:=Rd h
theorem gwT (h:K .ret s):GW P C n d ro .ret s K:=VT h
theorem gwE {id:Nat} (h:K (.exit id) s):GW P C n d ro (.exit id) s K:=aaw h
theorem gwG {id:Nat} (h:K (.goto id) s):GW P C n d ro (.goto id) s K:=aax h
theorem gwL {id:Nat} (h:K .normal s):GW P C n d ro (.label id) s K:=Mc h
theorem gwB {id:Nat} {c:Code} (h:GW P C n d ro c s (nm id K)):GW P C n d ro (.block id c) s K:=uv h
theorem gwC {t:Tmp} {x y:Code} {b:Bool} (ht:b=true->GW P C n d ro x s K) (hf:b=false->GW P C n d ro y s K) (hb:s.ts t=.bool b:=by simp;rfl):GW P C n d ro (.cond (.tmp t) x y) s K:=KH hb ht hf
theorem gwR {id:Nat} {l:og} (pn:List FuncId) (h:∀ (Q:QQ),(∀ ts hp tr yc,true=true->K .normal ⟨ts,hp,s.B+8*l.length,yc⟩->Q.q ts hp tr yc)->(∀ pv tr,true=true->(∀ yc,K (.panic [{ v:=pv,recovered:=false }]) ⟨sW l s.ts,s.hp,s.B,yc⟩)->Q.p pv tr)->pd P C.G ⟨C.Y,pn,false⟩ s.B Q [] 0 l s.ts s.hp [] s.yc false false)
  (jL:(sO n l&&GJ P l)=true:=by kernel_rfl):GW P C n d ro (.region id l.toArray false) s K:=iW pn jL λQ hQ hP=>h Q (λts hp tr yc _=>hQ ts hp tr yc) (λpv tr _=>hP pv tr)
theorem gwD {id:Nat} {l:og} (pn:List FuncId) (h:∀ (Q:QQ),(∀ ts hp tr yc,chk .any l.toArray tr=true->K .normal ⟨ts,hp,s.B+8*l.length,yc⟩->Q.q ts hp tr yc)->(∀ pv tr,chk .any l.toArray tr=true->(∀ yc,K (.panic [{ v:=pv,recovered:=false }]) ⟨sW l s.ts,s.hp,s.B,yc⟩)->Q.p pv tr)->pd prog C.G ⟨C.Y,pn,true⟩ s.B Q [] 0 l s.ts s.hp [] s.yc false false)
  (hB:Region.lexFrom .any l.toArray l.length 0 (Array.replicate l.length false)=true:=by kernel_rfl) (jL:(sO n l&&GJ prog l)=true:=by kernel_rfl):GW prog C n d ro (.region id l.toArray true) s K:=VS pn follows hB jL h
theorem wM:(∀ (a:Oper) (l:og),(a::l).length=l.length+1)/\([]:List Oper).length=0:=⟨λ_ _=>rfl,rfl⟩
end
@[simp] theorem ts1:bA prog 1=some 1:=aZ sizeOf1
@[simp] theorem ts2:bA prog 2=some 1:=aZ sizeOf2
@[simp] theorem tz3:cT prog 3=some (.int .i64 0):=fD zeroValue3
@[simp] theorem ts3:bA prog 3=some 1:=aZ sizeOf3
@[simp] theorem lb3:∀ c off,eh prog 3 c off=pj c[off]?:=fQ (cO isAgg3)
@[simp] theorem tz4:cT prog 4=some (.bool false):=fD zeroValue4
@[simp] theorem ts4:bA prog 4=some 1:=aZ sizeOf4
@[simp] theorem lb4:∀ c off,eh prog 4 c off=pj c[off]?:=fQ (cO isAgg4)
@[simp] theorem bo4:BM prog 4=true:=Wq underlying4
@[simp] theorem lb5:∀ c off,eh prog 5 c off=pj c[off]?:=fQ (cO isAgg5)
@[simp] theorem ts9:bA prog 9=some 1:=aZ sizeOf9
@[simp] theorem lb9:∀ c off,eh prog 9 c off=pj c[off]?:=fQ (cO isAgg9)
@[simp] theorem aw9:∀ c off,eh prog 22 c off=pj c[off]?:=fQ (cO isAgg22)
@[simp] theorem aup:Bq prog 22=true:=ae
@[simp] theorem axN:cT prog 24=some (.agg #[.slice none 0 0,.int .i64 0,.int .i64 0,.int .i64 0,.int .i64 0,.int .i64 0]):=fD zeroValue24
@[simp] theorem asz:bA prog 24=some 6:=aZ sizeOf24
@[simp] theorem axa:∀ c off,eh prog 24 c off=if off+6<=c.size then some (.agg (c.extract off (off+6))) else none:=kU (cO isAgg24) asz
@[simp] theorem ap9:fdX prog 24 0=some (22,0):=by simp only [fdX,underlying24,aZ sizeOf22];kernel_rfl
@[simp] theorem aqa:fdX prog 24 1=some (3,1):=oz
@[simp] theorem aqb:fdX prog 24 2=some (3,2):=oz
@[simp] theorem aqc:fdX prog 24 3=some (3,3):=oz
@[simp] theorem aqd:fdX prog 24 4=some (3,4):=oz
@[simp] theorem aqe:fdX prog 24 5=some (3,5):=oz
@[simp] theorem axr:eL prog 24=some (.inl [(0,1),(1,1),(2,1),(3,1),(4,1),(5,1)]):=by simp only [eL,underlying24];kernel_rfl
@[simp] theorem axF:bA prog 25=some 1:=aZ sizeOf25
@[simp] theorem axb:∀ c off,eh prog 25 c off=pj c[off]?:=fQ (cO isAgg25)
@[simp] theorem auq:Bq prog 25=true:=ae
@[simp] theorem axO:cT prog 27=some (.agg #[.int .i64 0,.slice none 0 0]):=fD zeroValue27
@[simp] theorem asA:bA prog 27=some 2:=aZ sizeOf27
@[simp] theorem axc:∀ c off,eh prog 27 c off=if off+2<=c.size then some (.agg (c.extract off (off+2))) else none:=kU (cO isAgg27) asA
@[simp] theorem aqf:fdX prog 27 0=some (3,0):=by simp only [fdX,underlying27,aZ sizeOf3];kernel_rfl
@[simp] theorem aqg:fdX prog 27 1=some (25,1):=by simp only [fdX,underlying27,aZ sizeOf25];kernel_rfl
@[simp] theorem axs:eL prog 27=some (.inl [(0,1),(1,1)]):=by simp only [eL,underlying27];kernel_rfl
@[simp] theorem axP:cT prog 28=some (.slice none 0 0):=fD zeroValue28
@[simp] theorem axG:bA prog 28=some 1:=aZ sizeOf28
@[simp] theorem axd:∀ c off,eh prog 28 c off=pj c[off]?:=fQ (cO isAgg28)
@[simp] theorem axe:∀ c off,eh prog 31 c off=pj c[off]?:=fQ (cO isAgg31)
@[simp] theorem axQ:cT prog 33=some (.agg #[.int .u8 0,.int .i64 0,.int .i64 0]):=fD zeroValue33
@[simp] theorem asB:bA prog 33=some 3:=aZ sizeOf33
@[simp] theorem ar6:∀ c off,eh prog 33 c off=if off+3<=c.size then some (.agg (c.extract off (off+3))) else none:=kU (cO isAgg33) asB
@[simp] theorem aqh:fdX prog 33 0=some (5,0):=by simp only [fdX,underlying33,aZ sizeOf5];kernel_rfl
@[simp] theorem aqi:fdX prog 33 1=some (3,1):=CT
@[simp] theorem aqj:fdX prog 33 2=some (3,2):=CT
@[simp] theorem axt:eL prog 33=some (.inl [(0,1),(1,1),(2,1)]):=by simp only [eL,underlying33];kernel_rfl
@[simp] theorem axR:cT prog 34=some (.slice none 0 0):=fD zeroValue34
@[simp] theorem axH:bA prog 34=some 1:=aZ sizeOf34
@[simp] theorem axf:∀ c off,eh prog 34 c off=pj c[off]?:=fQ (cO isAgg34)
@[simp] theorem axS:cT prog 35=some (.int .i64 0):=fD zeroValue35
@[simp] theorem axI:bA prog 35=some 1:=aZ sizeOf35
@[simp] theorem axg:∀ c off,eh prog 35 c off=pj c[off]?:=fQ (cO isAgg35)
@[simp] theorem axh:∀ c off,eh prog 40 c off=pj c[off]?:=fQ (cO isAgg40)
@[simp] theorem axT:cT prog 48=some (.agg #[.int .i64 0,.int .i64 0,.int .i64 0]):=fD zeroValue48
@[simp] theorem asC:bA prog 48=some 3:=aZ sizeOf48
@[simp] theorem axi:∀ c off,eh prog 48 c off=if off+3<=c.size then some (.agg (c.extract off (off+3))) else none:=kU (cO isAgg48) asC
@[simp] theorem axu:eL prog 48=some (.inr 1):=tE underlying48 (aZ sizeOf3)
@[simp] theorem asW:Tg prog 48=some 3:=ae
@[simp] theorem au1:Ht prog 48=some 3:=Rj underlying48 underlying3 (aZ sizeOf3) eqGuardType48
@[simp] theorem axU:cT prog 50=some (.agg #[.int .i64 0,.int .i64 0,.int .i64 0,.int .i64 0,.int .i64 0,.int .i64 0]):=fD zeroValue50
@[simp] theorem axJ:bA prog 50=some 6:=aZ sizeOf50
@[simp] theorem aqk:fdX prog 50 0=some (48,0):=B9
@[simp] theorem aql:fdX prog 50 1=some (48,3):=B9
@[simp] theorem asX:Ht prog 50=none:=ae
@[simp] theorem aus:tN prog 50=some [(48,0),(48,3)]:=ae
@[simp] theorem axv:eL prog 50=some (.inl [(0,3),(3,3)]):=by simp only [eL,underlying50];kernel_rfl
@[simp] theorem axV:cT prog 58=some (.slice none 0 0):=fD zeroValue58
@[simp] theorem axK:bA prog 58=some 1:=aZ sizeOf58
@[simp] theorem axj:∀ c off,eh prog 58 c off=pj c[off]?:=fQ (cO isAgg58)
@[simp] theorem axL:bA prog 68=some 1:=aZ sizeOf68
@[simp] theorem axk:∀ c off,eh prog 68 c off=pj c[off]?:=fQ (cO isAgg68)
@[simp] theorem axW:cT prog 85=some (.agg #[.int .i64 0,.int .i64 0,.int .i64 0]):=fD zeroValue85
@[simp] theorem asD:bA prog 85=some 3:=aZ sizeOf85
@[simp] theorem axl:∀ c off,eh prog 85 c off=if off+3<=c.size then some (.agg (c.extract off (off+3))) else none:=kU (cO isAgg85) asD
@[simp] theorem aqm:fdX prog 85 2=some (3,2):=by simp only [fdX,underlying85,aZ sizeOf3];kernel_rfl
@[simp] theorem axw:eL prog 85=some (.inl [(0,1),(1,1),(2,1)]):=by simp only [eL,underlying85];kernel_rfl
@[simp] theorem auH:cT prog 111=some (.agg #[.string { data:=#[] },.slice none 0 0]):=fD zeroValue111
@[simp] theorem anF:bA prog 111=some 2:=aZ sizeOf111
@[simp] theorem atM:∀ c off,eh prog 111 c off=if off+2<=c.size then some (.agg (c.extract off (off+2))) else none:=kU (cO isAgg111) anF
@[simp] theorem aor:fdX prog 111 1=some (22,1):=by simp only [fdX,underlying111,aZ sizeOf22];kernel_rfl
@[simp] theorem aua:eL prog 111=some (.inl [(0,1),(1,1)]):=by simp only [eL,underlying111];kernel_rfl
@[simp] theorem auI:cT prog 112=some (.agg #[.string { data:=#[] },.slice none 0 0,.string { data:=#[] },.slice none 0 0,.string { data:=#[] },.slice none 0 0,.string { data:=#[] },.slice none 0 0,.string { data:=#[] },.slice none 0 0]):=fD zeroValue112
@[simp] theorem anG:bA prog 112=some 10:=aZ sizeOf112
@[simp] theorem atN:∀ c off,eh prog 112 c off=if off+10<=c.size then some (.agg (c.extract off (off+10))) else none:=kU (cO isAgg112) anG
@[simp] theorem aub:eL prog 112=some (.inr 2):=tE underlying112 (aZ sizeOf111)
@[simp] theorem anH:bA prog 127=some 7:=aZ sizeOf127
@[simp] theorem atO:∀ c off,eh prog 127 c off=if off+7<=c.size then some (.agg (c.extract off (off+7))) else none:=kU (cO isAgg127) anH
@[simp] theorem auJ:cT prog 128=some (.nilFunc):=fD zeroValue128
@[simp] theorem auD:bA prog 128=some 1:=aZ sizeOf128
@[simp] theorem atP:∀ c off,eh prog 128 c off=pj c[off]?:=fQ (cO isAgg128)
@[simp] theorem atQ:∀ c off,eh prog 131 c off=pj c[off]?:=fQ (cO isAgg131)
@[simp] theorem auE:bA prog 138=some 1:=aZ sizeOf138
@[simp] theorem atS:∀ c off,eh prog 138 c off=pj c[off]?:=fQ (cO isAgg138)
@[simp] theorem auK:cT prog 140=some (.agg #[.int .u64 0,.int .u64 0,.int .u64 0,.int .u64 0]):=fD zeroValue140
@[simp] theorem anI:bA prog 140=some 4:=aZ sizeOf140
@[simp] theorem atT:∀ c off,eh prog 140 c off=if off+4<=c.size then some (.agg (c.extract off (off+4))) else none:=kU (cO isAgg140) anI
@[simp] theorem auc:eL prog 140=some (.inr 1):=tE underlying140 (aZ sizeOf138)
@[simp] theorem asV:Ht prog 140=some 4:=Rj underlying140 underlying138 (aZ sizeOf138) eqGuardType140
@[simp] theorem auL:cT prog 160=some (.agg #[.int .u64 0,.int .u64 0,.int .u64 0,.int .u64 0,.int .u64 0,.int .u64 0,.int .u64 0,.int .u64 0]):=fD zeroValue160
@[simp] theorem auF:bA prog 196=some 2:=aZ sizeOf196
@[simp] theorem aos:fdX prog 196 0=some (3,0):=CA
@[simp] theorem aot:fdX prog 196 1=some (3,1):=CA
end Go.Gy
namespace Go.Gy
open Go Go.RowKit
theorem cQ {Q : QQ} {c : Tr -> Prop} {K : (Nat -> Value) -> Hp -> Nat -> Prop} (hQ : ∀ ts hp tr yc, c tr -> K ts hp yc -> Q.q ts hp tr yc) {ts : Nat -> Value} {hp : Hp} {tr : Tr} {yc : Nat} (k : K ts hp yc) (h : c tr := by kernel_rfl) : Q.q ts hp tr yc := hQ _ _ _ _ h k
theorem g6 {P Q : Prop} (q : Q) (h : Q -> P := by first | exact gwR [] | exact gwD []) : P := h q
theorem Vn {P Q : Prop} (q : Q) (h : Q -> P := by first | exact gwS | (intro q; simp only [wN, wM, Nat.reduceAdd, Nat.reduceMul]; exact q) | exact gwB | exact gwT | exact gwK | exact gwE | exact gwG | exact gwL | (intro q; simp only [n5]; exact q)) : P := h q
end Go.Gy
namespace Go.Gy
open Go Go.RowKit
section
variable {P : Program} {C : Ctx} {n : Nat} {d : List Deferred} {ro : Option Nat} {s : GS} {K : Exit -> GS -> Prop}
theorem aqr {t : Tmp} {x y : Code} (h : GW P C n d ro x s K) (hb : s.ts t = .bool true) : GW P C n d ro (.cond (.tmp t) x y) s K := KH hb (λ_ => h) (λe => nomatch e)
theorem aqq {t : Tmp} {x y : Code} (h : GW P C n d ro y s K) (hb : s.ts t = .bool false) : GW P C n d ro (.cond (.tmp t) x y) s K := KH hb (λe => nomatch e) (λ_ => h)
end
theorem cM {P Q : Prop} (q : Q) (h : Q -> P := by first | exact gwS | (intro q; simp only [wN, wM, Nat.reduceAdd, Nat.reduceMul]; exact q) | exact gwB | exact gwT | exact gwK | exact gwE | exact gwG | exact gwL | (intro q; refine aqr q ?_; simp; done) | (intro q; refine aqq q ?_; simp; done) | (intro q; simp only [n5]; exact q)) : P := h q
theorem gwW {P Q : Prop} (q : Q) (h : Q -> P := by intro q; refine g6 ?_; intro Q hQ _; simp [hC, hY]; refine cQ hQ ?_; exact q) : P := h q
theorem K4 {P Q : Prop} (q : Q) (h : Q -> P := by intro q; refine g6 ?_; intro Q hQ _; simp [hC, hY, hA, hS, df, fq]; refine cQ hQ ?_; exact q) : P := h q
end Go.Gy
namespace Go.Gy
open Go Go.RowKit
theorem dy {P Q F : Prop} (f : F) (q : Q) (h : F -> Q -> P := by intro f q; (repeat' first | refine cM ?_ | (refine g6 ?_; intro Q hQ _; simp [hC, hY, f]; refine cQ hQ ?_) | fail); exact q) : P := h f q
theorem vj {P Q F : Prop} (f : F) (q : Q) (h : F -> Q -> P := by intro f q; (repeat' first | refine cH ?_ | refine dc ?_ | refine cM ?_ | (refine g6 ?_; intro Q hQ _; simp [hC, hY, f]; refine cQ hQ ?_) | fail); exact q) : P := h f q
theorem fO {P Q : Prop} (q : Q) (h : Q -> P := by intro q; (repeat' first | refine cM ?_ | (refine g6 ?_; intro Q hQ _; simp [hC, hY]; refine cQ hQ ?_) | fail); exact q) : P := h q
end Go.Gy
namespace Go.Gy
open Go Go.RowKit Go.Proofs Go.Proofs.Tryz
def lsB:Blk:=⟨#[.int .u64 0,.int .u64 0,.int .u64 0,.int .u64 9223372036854775808],.ty 140⟩
def cnB:Blk:=⟨#[.string ⟨#[98,111,100,105,101,115]⟩,.string ⟨#[109,97,115,115]⟩,.string ⟨#[99,111,110,115,116,97,110,116]⟩,.string ⟨#[98,111,120]⟩,.string ⟨#[116,111,112]⟩,.string ⟨#[110,101,97,114]⟩,.string ⟨#[109,101,116,104,111,100]⟩],.ty 127⟩
def G0L:List (Nat×Blk) :=
 (3,lsB) ::
 (1,cnB) ::
 []
def G0:Hp:=hpL (λ_=>none) G0L
theorem KD {k:Nat} {b:Blk} (h:G0 k=some b):(k,b)∈G0L:=(cB h).resolve_right (λh=>nomatch h)
theorem G0F:ct G0:=λk b h=>by
 have h1:∀ p∈G0L,p.1<100/\∀ x∈p.2.c,bP x=true:=by
  simp [G0L,lsB
   ,cnB
  ]
 exact h1 _ (KD h)
@[simp] theorem KC (k:Nat) (h:100<=k):G0 k=none:=by
 cases hb:G0 k with
 | none=>rfl
 | some b=>have:=(G0F k b hb).1;omega
theorem AM {k:Nat} (h:dom G0 k):k<100:=by
 refine aO λhk=>?_;exact h (KC k zO)
theorem Jv (D:gA) (k:Nat) (b:Blk) (h:G0 k=some b):b.ids D:=Blk.flat_ids ((G0F k b h).2)
@[simp] theorem akx:G0 3=some lsB:=by simp [G0,G0L]
@[simp] theorem aky:G0 1=some cnB:=by simp [G0,G0L]
theorem G0W:∃ W,GOK G0 W:=⟨{ (default:World) with heap:=Array.ofFn (n:=100) λk=>match G0 k.1 with|some b=>b.obj0|none=>.cells #[] 0 (0,0) },λk b h=>by
 have hk:=(G0F k b h).1;simp [hk,h]⟩

def wd (z:Int):Value:=.agg #[.int .u64 (wi z 0),.int .u64 (wi z 1),.int .u64 (wi z 2),.int .u64 (wi z 3)]
@[simp] theorem ZJ (z:Int):wd z=.agg #[.int .u64 (wi z 0),.int .u64 (wi z 1),.int .u64 (wi z 2),.int .u64 (wi z 3)]:=rfl
def dg (z:Int):Value:=.agg #[.int .u64 (di z 0),.int .u64 (di z 1),.int .u64 (di z 2),.int .u64 (di z 3),.int .u64 (di z 4),.int .u64 (di z 5),.int .u64 (di z 6),.int .u64 (di z 7)]
@[simp] theorem as1 (z:Int):dg z=.agg #[.int .u64 (di z 0),.int .u64 (di z 1),.int .u64 (di z 2),.int .u64 (di z 3),.int .u64 (di z 4),.int .u64 (di z 5),.int .u64 (di z 6),.int .u64 (di z 7)]:=rfl
def ng (z:Int):Bool:=decide (9223372036854775808<=wi z 3)

end Go.Gy
namespace Go.Gy
open Go Go.RowKit Go.Proofs Go.Proofs.Tryz

@[simp] theorem AE (k : Nat) : wi 0 k = 0 := by simp [wi]

theorem Zy (z : Int) : sz z = wi z 0 + 18446744073709551616 * wi z 1 + 340282366920938463463374607431768211456 * wi z 2 + 6277101735386680763835789423207666416102355444464034512896 * wi z 3 - (if ng z then 115792089237316195423570985008687907853269984665640564039457584007913129639936 else 0) := by
  have h1 := aiE z;have := eC z 0; have := fi z 0; have := eC z 1; have := fi z 1; have := eC z 2; have := fi z 2; have := eC z 3; have := fi z 3;simp only [ng, fe];unfold sz;rw [dz];split <;> split <;> omega
theorem Af (z : Int) : ng z = decide (sz z < 0) := by
  have h1 := Zy z;have := eC z 0; have := fi z 0; have := eC z 1; have := fi z 1; have := eC z 2; have := fi z 2; have := eC z 3; have := fi z 3;rw [lE];simp only [ng, fe] at h1 |-;split at h1 <;> omega
end Go.Gy
namespace Go.Gy
open Go Go.RowKit
abbrev qN := @Array.toList_ofFn
abbrev qF := @List.ofFn_succ
abbrev aS := Nat -> Int

def fa (n:Nat) (k:IntKind) (f:aS):Array Value:=Array.ofFn λj:Fin n=>.int k (f j)
@[simp] theorem aoq (n:Nat) (k:IntKind) (f:aS):(fa n k f).size=n:=by simp [fa]
theorem lr (n:Nat) (k:IntKind) (f:aS) (i:Nat) (h:i<n):(fa n k f)[i]? = some (.int k (f i)):=by simp [fa,h]
@[simp] theorem aop (n:Nat) (k:IntKind) (f:aS) (i:Nat) (h:i<(fa n k f).size):(fa n k f)[i]=.int k (f i):=by simp [fa]
theorem yX {n:Nat} {k:IntKind} {f:aS} {x:Value} (h:x∈fa n k f):∃ m,x=.int k m:=by
 simp only [fa,Array.mem_ofFn] at h;obtain ⟨i,rfl⟩:=h;exact ⟨_,rfl⟩
theorem AZ (n:Nat) (k:IntKind) (f:aS) (i:Nat) (v:Int):(fa n k f).setIfInBounds i (.int k v)=fa n k (upd f i v):=by
 apply iB;intro j;rw [fU];by_cases hj:j<n
 ·rw [lr _ _ _ _ hj,lr _ _ _ _ hj];by_cases e:i=j
  ·subst e;simp [hj,upd]
  ·simp [e,upd,lL e]
 ·have h1:(fa n k f)[j]? = none:=by simp [fa];omega
  have h2:(fa n k (upd f i v))[j]? = none:=by simp [fa];omega
  rw [h1,h2];split<;>simp_all
@[simp] theorem aoo (n:Nat) (k:IntKind) (f:aS):(fa n k f).all bP 0 n=true:=by
 have:(fa n k f).all bP=true:=cV.2 λx hx=>by obtain ⟨m,rfl⟩:=yX hx;rfl
 exact cZ
theorem aF (l:List Value) (T:TypeId) (D:gA):(Blk.mk l.toArray T).ids D↔∀ x∈l,aL D x:=by simp [Blk.ids]
theorem vh (n:Nat) (k:IntKind) (f:aS) (T:TypeId) (D:gA):(Blk.mk (fa n k f) T).ids D:=by
 intro x hx;obtain ⟨m,rfl⟩:=yX hx
 trivial
theorem TC (k:IntKind) (f:aS):fa 8 k f=#[.int k (f 0),.int k (f 1),.int k (f 2),.int k (f 3),.int k (f 4),.int k (f 5),.int k (f 6),.int k (f 7)]:=by
 apply jk;simp [fa,qN,qF]
theorem Jc (k:IntKind) (f:aS):fa 4 k f=#[.int k (f 0),.int k (f 1),.int k (f 2),.int k (f 3)]:=by
 apply jk;simp [fa,qN,qF]
theorem IE:∀ (l:List Value) (c:bV) (o j:Nat),(gh c o l)[j]? = if o<=j/\j<o+l.length/\j<c.size then l[j - o]? else c[j]?
 | [],c,o,j=>by simp [gh];omega
 | v::l,c,o,j=>by
  rw [gh,IE l,fU,Array.size_setIfInBounds];by_cases e:o=j
  ·subst e;rw [ab zO,ai rfl];by_cases h:o<c.size
   ·simp [h]
   ·simp [h]
  ·by_cases h:o+1<=j/\j<o+1+l.length/\j<c.size
   ·rw [ai h,ai aE];have:j - o=(j - (o+1))+1:=zO;rw [this,qE]
   ·rw [ab h,ab e,ab (by simp;omega)]
@[simp] theorem af1 (n:Nat) (k:IntKind) (f:aS):(fa n k f).extract 0 n=fa n k f:=by
 have:n=(fa n k f).size:=zS
 conv=>lhs;rw [this]
 simp

theorem zJ {n:Nat} {k:IntKind} {f g:aS} (h:∀ j,j<n->f j=g j):fa n k f=fa n k g:=by
 unfold fa;congr 1;funext j;rw [h j j.2]
end Go.Gy
namespace Go.Gy
open Go Go.RowKit
abbrev qs := @List.getElem?_eq_none
abbrev ix := @List.append_assoc
abbrev js := @List.getElem?_append_left
abbrev jn := @List.getElem?_append_right
section
variable {P:Program}
def rdI (b:Blk) (off N:Nat) (f:aS):Prop:=∀ j,j<N->b.c[off+j]? = some (.int .i64 (f j))
theorem zi (N:Nat) (f:aS) (T:BTy):rdI ⟨fa N .i64 f,T⟩ 0 N f:=λj hj=>by
 rw [ar];exact lr N .i64 f j hj
theorem rdI.le {b:Blk} {off N M:Nat} {f:aS} (h:rdI b off N f) (hm:M<=N):rdI b off M f:=λj hj=>h j zO
theorem H6 {T:TypeId} {b:Blk} {off:Nat} {v:Value} (h:eh P T b.c off=some v) (hf:bz v=true) (JZ:b.T.rd=true:=by first|rfl|assumption):ft P T b off=some v:=by
 obtain ⟨c,t⟩:=b
 cases t with
 | ty t=>exact h
 | raw t fr=>simp only [ft];simp only at h;rw [h];simp [hf]
 | mp=>cases JZ
theorem W5 (m:Nat) (k:IntKind) (f:aS):bz (.agg (fa m k f))=true:=by
 simp [bz,o6]
theorem sY {T:TypeId} {m:Nat} (h1:oe P T=some true) (h2:bA P T=some m) (hm:0<m) {b:Blk} {off N j:Nat} {f:aS} (h:rdI b off N f) (hj:j+m<=N) (JZ:b.T.rd=true:=by first|rfl|assumption):ft P T b (off+j)=some (.agg (fa m .i64 λq=>f (j+q))):=by
 have yg:off+j+m<=b.c.size:=by
  have:=h (j+m - 1) zO;have:=(a9.1 this).1;omega
 have he:b.c.extract (off+j) (off+j+m)=fa m .i64 λq=>f (j+q):=by
  apply iB;intro q;rw [uK];by_cases hq:q<m
  ·rw [ai zO,lr _ _ _ _ hq,qy,h (j+q) zO]
  ·rw [ab zO];simp [fa];omega
 refine H6 ?_ (W5 _ _ _);simp only [eh,h1,h2,ai yg,he]
theorem Bf {T:TypeId} (h1:oe P T=some false) {b:Blk} {off N j:Nat} {f:aS} (h:rdI b off N f) (hj:j<N) (JZ:b.T.rd=true:=by first|rfl|assumption):ft P T b (off+j)=some (.int .i64 (f j)):=by
 refine H6 ?_ (by simp [bz,o6,bP,mD]);simp only [eh,h1,h j hj]
 rfl
theorem ap8 (k:IntKind) (f:aS):fa 6 k f=#[.int k (f 0),.int k (f 1),.int k (f 2),.int k (f 3),.int k (f 4),.int k (f 5)]:=by
 apply jk;simp [fa,qN,qF]
theorem MG (k:IntKind) (f:aS):fa 3 k f=#[.int k (f 0),.int k (f 1),.int k (f 2)]:=by
 apply jk;simp [fa,qN,qF]
def Bl (f:aS) (o:Nat) (a b c:Int):Nat->Int:=λj=>if j=o then a else if j=o+1 then b else if j=o+2 then c else f j
theorem Zo (N:Nat) (k:IntKind) (f:aS) (o:Nat) (a b c:Int) (h:o+3<=N):gh (fa N k f) o [.int k a,.int k b,.int k c]=fa N k (Bl f o a b c):=by
 apply iB;intro j;rw [IE];by_cases hj:j<N
 ·rw [lr _ _ _ _ hj,lr _ _ _ _ hj];unfold Bl;by_cases h0:j=o
  ·subst h0;simp [hj]
  ·by_cases h1:j=o+1
   ·subst h1;simp [hj]
   ·by_cases h2:j=o+2
    ·subst h2;simp [hj]
    ·rw [ab (by simp;omega),ab h0,ab h1,ab h2]
 ·rw [ab aE];have h1:(fa N k f)[j]? = none:=by simp [fa];omega
  have h2:(fa N k (Bl f o a b c))[j]? = none:=by simp [fa];omega
  rw [h1,h2]
def ahZ (f:aS) (a m:Nat) (g:aS):Nat->Int:=λj=>if a<=j/\j<a+m then g (j - a) else f j
def Ms (f:aS) (a m:Nat) (g:aS):Nat->Int:=λj=>if j<a then f j else if j<a+m then g (j - a) else 0
theorem G5 {l:List Value} {N:Nat} {k:IntKind} {g:aS} (hl:l.length=N) (h:∀ j,j<N->l[j]? = some (.int k (g j))):l.toArray=fa N k g:=by
 apply iB;intro j;by_cases hj:j<N
 ·rw [lr _ _ _ _ hj,iz,h j hj]
 ·have h1:(fa N k g)[j]? = none:=by simp [fa];omega
  rw [h1,iz,qs zO]
theorem gw {N:Nat} {k:IntKind} {f:aS} {j:Nat} (h:j<N):(fa N k f).toList[j]? = some (.int k (f j)):=by
 rw [j4];exact lr _ _ _ _ h
theorem lh (N:Nat) (k:IntKind) (f:aS):(fa N k f).toList.length=N:=zS
theorem Wl {N a m:Nat} {k:IntKind} {f g:aS} (h:a+m<=N):((fa N k f).toList.take a++(fa m k g).toList++(fa N k f).toList.drop (a+(fa m k g).toList.length)).toArray=fa N k (ahZ f a m g):=by
 refine G5 aE λj hj=>?_;rw [lh];have hta:((fa N k f).toList.take a).length=a:=aE;unfold ahZ;by_cases h1:j<a
 ·rw [ix,js zO,fT,ai h1,gw zO,ab zO]
 ·rw [ix,jn zO,hta];by_cases h2:j<a+m
  ·rw [js (by simp;omega),gw zO,ai zO]
  ·rw [jn (by simp;omega),lh,j6,ab zO,(zO:a+m+(j - a - m)=j),gw hj]
theorem IU {z:bV} {k:IntKind} (hz:∀ x∈z,x=.int k 0) (q:Nat):(Builtin.zeroCells z q).toList=(fa (q*z.size) k λ_=>0).toList:=by
 have e:(Builtin.zeroCells z q).toList.toArray=fa (q*z.size) k λ_=>0:=G5 (by simp [LY]) λj hj=>by
  have RK:j<(Builtin.zeroCells z q).size:=by rw [LY];exact hj
  rw [j4,iE RK];exact congrArg some (hz _ (IT (jj RK)))
 rw [<-e]
theorem Wk {N a m q:Nat} {k:IntKind} {f g:aS} (h:a<=N):((fa N k f).toList.take a++(fa m k g).toList++(fa q k λ_=>0).toList).toArray=fa (a+m+q) k (Ms f a m g):=by
 refine G5 aE λj hj=>?_;have hta:((fa N k f).toList.take a).length=a:=aE;unfold Ms;by_cases h1:j<a
 ·rw [ix,js zO,fT,ai h1,gw zO,ai h1]
 ·rw [ix,jn zO,hta,ab h1];by_cases h2:j<a+m
  ·rw [js (by simp;omega),gw zO,ai h2]
  ·rw [jn (by simp;omega),lh,gw zO,ab h2]
theorem Ri {m q:Nat} {k:IntKind} {g:aS}:((fa m k g).toList++(fa q k λ_=>0).toList).toArray=fa (m+q) k (Ms g m 0 g):=by
 refine G5 zS λj hj=>?_;unfold Ms;by_cases h1:j<m
 ·rw [js (by simp;omega),gw h1,ai h1]
 ·rw [jn (by simp;omega),lh,gw zO,ab h1,ab zO]
theorem o9 {N:Nat} {k:IntKind} {f:aS}:∀ x∈(fa N k f).toList,bP x=true:=λx hx=>by
 obtain ⟨m,rfl⟩:=yX (Array.mem_toList_iff.1 hx)
 rfl
theorem MH {N:Nat} {k:IntKind} {f:aS}:∀ x∈(fa N k f).toList,x.oneCell'=true:=λx hx=>by
 obtain ⟨m,rfl⟩:=yX (Array.mem_toList_iff.1 hx)
 rfl
theorem ah1 {b:Blk} {off N:Nat} {f:aS} (h:rdI b off N f):∀ q u,(fa N .i64 f).toList[q]? = some u->b.c[off+q]? = some u:=λq u hq=>by
 by_cases hN:q<N
 ·rw [gw hN] at hq;rw [h q hN];exact hq
 ·rw [qs (by simp;omega)] at hq;cases hq
theorem ic {N:Nat} {f:aS} {k:IntKind} {T:TypeId} {ρ:cI}:(Blk.mk (fa N k f) (.ty T)).rn ρ=⟨fa N k f,.ty T⟩:=Blk.rn_flat λx hx=>by
 obtain ⟨m,rfl⟩:=yX hx;rfl
end
end Go.Gy
namespace Go.Gy
open Go Go.RowKit
theorem vM {p:Prop} (h:p:=by unfold maxLen;omega):p:=h
abbrev iy := @Nat.mul_add
abbrev qm := @Nat.mul_one
abbrev lM := @Nat.mul_comm
section
variable {P:Program} {C:Ctx} {n:Nat} {d:List Deferred} {ro:Option Nat} {s:GS} {K:kV}
theorem VQ {ops:Array Oper} {o:Oper} {post:og} {base k:Nat} {ts:eM} {hp:Hp} {yc:Nat} {T e:TypeId} {m:Nat} (hg:o.guard=none) (hd:∀ dd,o.dst=some dd->dd<n)
  (ho:o.op=.buildSlice T 0 #[]) (hu:P.underlying T=some (.slice e)) (hm:bA P e=some m)
  (h:GL P C n d ro ops base (k+1) post (dk ts o.dst (.slice (some ⟨base+8*k,0,none⟩) 0 0)) (upd hp (base+8*k) (some ⟨#[],.ty e⟩)) yc K):GL P C n d ro ops base k (o::post) ts hp yc K:=by
 intro r a W hi hf hb hG hR;refine wpListIn_plain hg λK' JS=>?_;have mZ:hp (base+8*k)=none:=hf _ (aG _);have hff:∀ x∈(#[]:Array Value),bP x=true:=zS;have BS:¬dom hp (base+8*k):=by unfold dom;simp [mZ]
 have IZ:∀ q,dom hp q->upd r (base+8*k) W.heap.size q=r q:=λq hq=>aj _ _ (λe=>BS (e▸hq));refine jI iR (R:=λu W'=>u=.slice (some ⟨W.heap.size,0,none⟩) 0 0/\W'=W.alloc (.cells #[] e)) (Rp:=λ_ _=>False) ?_ (λu W' h'=>?_) (λpv W' h=>h.elim)
 ·unfold pW;simp only [execOp,ho,Instr.buildSlice,aY,run_underlying hu,bD,fu hm,Nat.zero_mul];simp [Instr.fill,newRow,newObj,Sem.run];rw [show Array.range 0=#[] from rfl,show ∀ f:Nat->Value,Array.map f #[]=#[] from λf=>by simp]
 ·obtain ⟨rfl,rfl⟩:=h';have hv:(Value.slice (some ⟨W.heap.size,0,none⟩) 0 0)=ren (upd r (base+8*k) W.heap.size) (.slice (some ⟨base+8*k,0,none⟩) 0 0):=by simp [ren,aT,aw,aA,upd]
  rw [hv];refine JS _ _ (h (upd r (base+8*k) W.heap.size) _ _ (hi.after (e:=⟨.slice (some ⟨base+8*k,0,none⟩) 0 0,[],[],[(base+8*k,⟨#[],.ty e⟩)],none,false⟩) hd IZ dD ⟨rfl,rfl,rfl,rF,λq hq _=>?_,λp hp1=>?_,λp hp1=>?_,by simp⟩ ah (by simp [ak,mZ];omega)) (λx tn=>?_) hb hG hR)
  ·exact lF _ _ _ hq
  ·simp only [bw,bE] at hp1;subst hp1;refine ⟨?_,Blk.flat_ids hff⟩;rw [Blk.obj_flat hff];show (W.alloc _).heap[upd r (base+8*k) W.heap.size (base+8*k)]? = _;rw [bj];exact heap_alloc_new W _
  ·exact Gj
  ·exact xF
def V9 (κ:IntKind) (m i:Nat) (G:aS) (e:TypeId) (hp:Hp) (sl:Value):Prop:=(i=0/\sl=.slice none 0 0)\/∃ (k c:Nat) (g:aS),100<=k/\sl=.slice (some ⟨k,0,none⟩) i c/\hp k=some ⟨fa (m*c) κ g,.ty e⟩/\i<=c/\∀ j,j<m*i->g j=G j
theorem Hf (κ:IntKind) {ops:Array Oper} {o:Oper} {post:og} {base k:Nat} {ts:eM} {hp:Hp} {yc:Nat} {tx ty:Tmp} {t e:TypeId} {m i j BN:Nat} {z:Value} {T2:BTy} {G ev:aS} (hg:o.guard=none) (hd:∀ dd,o.dst=some dd->dd<n)
  (ho:o.op=.call { callee:=.builtin .append,args:=#[.tmp tx,.tmp ty],argTypes:=#[t,t] }) (ht:P.underlying t=some (.slice e)) (hs:bA P e=some m) (hz:cT P e=some z) (L4:tP P e=some BN) (hb8:BN<=8*m)
  (hzz:∀ x∈z.cells,x=.int κ 0) (hzs:z.cells.size=m) (L6:0<m) (OS:m<=1024) (hx:V9 κ m i G e hp (ts tx)) (hy:ts ty=.slice (some ⟨j,0,none⟩) 1 1) (mU:hp j=some ⟨fa m κ ev,T2⟩) (RH:∀ q,q<m->ev q=G (m*i+q)) (Xv:(i+1)*(8*m)<=140737488355328)
  (h:∀ k' c' g',(k'=base+8*k\/∃ c,ts tx=.slice (some ⟨k',0,none⟩) i c)->100<=k'->i+1<=c'->(∀ q,q<m*(i+1)->g' q=G q) ->
   GL P C n d ro ops base (k+1) post (dk ts o.dst (.slice (some ⟨k',0,none⟩) (i+1) c')) (upd hp k' (some ⟨fa (m*c') κ g',.ty e⟩)) yc K) (JZ:T2.rd=true:=by first|rfl|assumption):GL P C n d ro ops base k (o::post) ts hp yc K:=by
 have y9:∀ q,∀ x∈Builtin.zeroCells z.cells q,bP x=true:=λq x hx=>by rw [hzz x (IT hx)];rfl
 by_cases Xs:¬100<=base
 ·intro r a W hi hf hb hG hR;exact absurd hb Xs
 replace Xs:100<=base:=Classical.not_not.1 Xs;have hle:m*(i+1)=m*i+m:=by rw [iy,qm]
 have hmi:m*i<=140737488355328:=fS (by rw [lM];exact j0 zO zO) Xv;have jU:i+1<=140737488355328:=fS (Nat.le_mul_of_pos_right _ zO) Xv;have h8:(i+1)*BN<=140737488355328:=fS (j0 (aG _) hb8) Xv;rcases hx with ⟨rfl,hx⟩|⟨k0,c,g,hk0,hx,hb,HT,hgG⟩
 ·refine Rb (nw:=(fa m κ ev).toList) hg hd ho ht hs hz L4 hx hy mU (λq u hq=>by simpa using hq) o9 y9 zO zS vM zO (λcW yz=>?_);rw [IU (k:=κ) hzz,Ri,hzs]
  have em:m+(cW - 1)*m=m*cW:=by
   have:cW=(cW - 1)+1:=zO;rw [this,iy,lM m];simp;omega
  rw [em];refine h _ cW _ (.inl rfl) zO zO λq hq=>?_;unfold Ms;rw [ai zO];have:=RH q zO;exact cZ
 ·refine afx hg hd (aaM (c:=(fa (m*c) κ g).toList) (c2:=(fa m κ ev).toList) (k:=k0) (j:=j) (m:=1) (m':=1) (sl:=i) (cap:=c) (e:=e) (T2:=T2) (sz:=m) (BN:=BN) (z:=z) ho ht hs hz L4 hx hk0 (by simpa using hb) o9 hy (by simpa using mU) o9 MH y9 zS (by rw [lh,lM];exact aG _) HT vM h8 (λhr=>?_) (λhr cW yz=>?_))
  ·have hcm:m*(i+1)<=m*c:=j0 (aG _) hr;rw [lM i m,Wl zO];refine h k0 c _ (.inr ⟨c,hx⟩) hk0 hr λq hq=>?_;unfold ahZ;by_cases nc:q<m*i
   ·rw [ab zO];exact hgG q nc
   ·rw [ai zO,RH _ zO];congr 1;omega
  ·have hcm:m*i<=m*c:=j0 (aG _) HT;rw [lM i m,IU (k:=κ) hzz,hzs,Wk zO]
   have em:m*i+m+(cW - (i+1))*m=m*cW:=by
    obtain ⟨x,rfl⟩:∃ x,cW=i+1+x:=⟨cW - (i+1),zO⟩
    rw [(zO:i+1+x - (i+1)=x),iy,iy,qm,lM x m]
   rw [em];refine h _ cW _ (.inl rfl) zO yz λq hq=>?_;unfold Ms;by_cases nc:q<m*i
   ·rw [ai nc];exact hgG q nc
   ·rw [ab nc,ai zO,RH _ zO];congr 1;omega
def akA (m i:Nat) (G:aS) (e:TypeId) (hp:Hp) (sl:Value):Prop:=V9 .i64 m i G e hp sl
theorem xV {ops:Array Oper} {o:Oper} {post:og} {base k:Nat} {ts:eM} {hp:Hp} {yc:Nat} {tx ty:Tmp} {t e:TypeId} {m i j BN:Nat} {z:Value} {T2:BTy} {G ev:aS} (hg:o.guard=none) (hd:∀ dd,o.dst=some dd->dd<n)
  (ho:o.op=.call { callee:=.builtin .append,args:=#[.tmp tx,.tmp ty],argTypes:=#[t,t] }) (ht:P.underlying t=some (.slice e)) (hs:bA P e=some m) (hz:cT P e=some z) (L4:tP P e=some BN) (hb8:BN<=8*m)
  (hzz:∀ x∈z.cells,x=.int .i64 0) (hzs:z.cells.size=m) (L6:0<m) (OS:m<=1024) (hx:akA m i G e hp (ts tx)) (hy:ts ty=.slice (some ⟨j,0,none⟩) 1 1) (mU:hp j=some ⟨fa m .i64 ev,T2⟩) (RH:∀ q,q<m->ev q=G (m*i+q)) (Xv:(i+1)*(8*m)<=140737488355328)
  (h:∀ k' c' g',(k'=base+8*k\/∃ c,ts tx=.slice (some ⟨k',0,none⟩) i c)->100<=k'->i+1<=c'->(∀ q,q<m*(i+1)->g' q=G q) ->
   GL P C n d ro ops base (k+1) post (dk ts o.dst (.slice (some ⟨k',0,none⟩) (i+1) c')) (upd hp k' (some ⟨fa (m*c') .i64 g',.ty e⟩)) yc K) (JZ:T2.rd=true:=by first|rfl|assumption):GL P C n d ro ops base k (o::post) ts hp yc K :=
 Hf .i64 hg hd ho ht hs hz L4 hb8 hzz hzs L6 OS hx hy mU RH Xv h JZ
theorem FunS.mvL {G:Hp} {f:FuncId} {args fL:bV} {m:bS} {B:Nat} {R R':AI} {db:Hp} {LG:List Nat} (h:FunS P G f args (hpL G m) (ak m) R) (cK:ct G) (hm:LOk m B) (ρ:cI) (ba:∀ k,k<100->ρ k=k)
  (ea:args.map (ren ρ)=fL) (er:(ak m).map ρ=LG) (eR:RR ρ R=R') (hp0:∀ k,k<100->db k=G k) (m9:∀ p∈m,100<=ρ p.1/\db (ρ p.1)=some (p.2.rn ρ)) (gu:∀ k∈ak m,∀ l∈ak m,ρ k=ρ l->k=l)
  (TS:∀ v ns,R v ns->∀ k∈ak ns,100<=ρ k/\ρ k∉LG) (hnj:∀ v ns,R v ns->∀ k∈ak ns,∀ l∈ak ns,ρ k=ρ l->k=l):FunS P G f fL db LG R':=by
 subst ea er eR;refine h.rn ρ cK hm.low (vz hm ρ ba hp0 m9 gu) (λv ns hR k hk=>?_) hnj;obtain ⟨h1,h2⟩:=TS v ns hR k hk;refine ⟨h1,λhd=>hd ?_⟩;unfold rst;rw [ab];rintro (h3|h3)
 ·omega
 ·exact h2 h3
theorem bN {G:Hp} {ops:Array Oper} {o:Oper} {post:og} {base k:Nat} {ts:eM} {hp db:Hp} {yc:Nat} {c:Call} {f:Operand} {g:FuncId} {cap:bV} {rs:List Nat} {args:bV} {R:AI} (hCG:C.G=G) (hr:FunS P G g args db rs R) (hg:o.guard=none) (hd:∀ dd,o.dst=some dd->dd<n)
  (ho:o.op=.call c) (hc:c.callee=.value f) (hf:okT ts f) (AF:gev ts f=.func (.func g) #[] cap) (JV:cap.all da=true) (ha:∀ x∈c.args.toList,okX ts hp x) (kv:c.args.map (gev ts)++cap=args)
  (h1:∀ q∈rs,db q=hp q) (h2:∀ q,q<100->db q=hp q) (m9:∀ v ns,R v ns->∀ q∈ak ns,base+8*k<=q/\q<base+8*k+8)
  (h:∀ v ns,R v ns->GL P C n d ro ops base (k+1) post (dk ts o.dst v) (bW hp ns) yc K):GL P C n d ro ops base k (o::post) ts hp yc K:=by
 subst hCG;exact Mb hg hd ho hc hf AF JV ha kv hr h1 h2 m9 h
end
theorem D8 {p:Prop} (h:p:=by
 refine zn hG TM hd ho hc hf AF JV ha rH (λv ns Jg q hq=>L5.at' i hi q (m9 v ns Jg q hq).1 (m9 v ns Jg q hq).2) (λv ns Jg r' a' W' cv=>h v ns Jg r' a' W' cv (L5.after (a9.1 hio).1 λx hx PY=>?_) hb hG hR);rw [dw (λhm=>PY (m9 v ns Jg x hm))];exact hx):p:=h
section
variable {P:Program} {C:Ctx} {n:Nat} {d:List Deferred} {ro:Option Nat} {s:GS} {K:kV}
structure AFree (ops:Array Oper) (base:Nat) (listed:Array Bool) (hp:Hp):Prop where
 at':∀ i,listed[i]? = some false->∀ x,base+8*i<=x->x<base+8*i+8->hp x=none
 up:∀ x,base+8*ops.size<=x->hp x=none
def GA (P:Program) (C:Ctx) (n:Nat) (d:List Deferred) (ro:Option Nat) (ops:Array Oper) (base:Nat) (fuel:Nat) (listed:Array Bool) (ts:eM) (hp:Hp) (yc:Nat) (K:kV):Prop :=
 ∀ r a W,RI C n d r ts hp yc a W->AFree ops base listed hp->100<=base->ct C.G->(∀ y,C.Y=some y->qc P C y)->wpAnyIn (Fw P ro) 0 P .any ops (λe a' W'=>∃ s' r',K e s'/\GI P C n d r' s' a' W') fuel listed a W
def GO (P:Program) (C:Ctx) (n:Nat) (d:List Deferred) (ro:Option Nat) (ops:Array Oper) (base:Nat) (fuel:Nat) (listed:Array Bool) (i:Nat) (ts:eM) (hp:Hp) (yc:Nat) (K:kV):Prop :=
 ∀ r a W,RI C n d r ts hp yc a W->AFree ops base listed hp->100<=base->ct C.G->(∀ y,C.Y=some y->qc P C y)->wpOpIn (Fw P ro) 0 P ops (λe a' W'=>∃ s' r',K e s'/\GI P C n d r' s' a' W') i (wpAnyIn (Fw P ro) 0 P .any ops (λe a' W'=>∃ s' r',K e s'/\GI P C n d r' s' a' W') fuel (listed.setIfInBounds i true)) a W
theorem yO {id:Nat} {l:og} (hm:P.follows .mixedOrders=true) (h:GA P C n d ro l.toArray s.B l.length (Array.replicate l.length false) s.ts s.hp s.yc K):GW P C n d ro (.region id l.toArray true) s K:=λr a W hi =>
 wpIn_region_any hm (by
  have:=h r a _ hi.ri.drew ⟨λi _ x hx _=>hi.free x zO,λx hx=>hi.free x zO⟩ hi.low hi.flat hi.rounds;simpa using this)
theorem Hc {ops:Array Oper} {base fuel:Nat} {listed:Array Bool} {ts:eM} {hp:Hp} {yc:Nat} (hr:Region.ready .any ops listed=[]) (h:K .normal ⟨ts,hp,base+8*ops.size,yc⟩):GA P C n d ro ops base fuel listed ts hp yc K:=λr a W hi hf hb hG hR=>by
 have hq:∃ s' r',K .normal s'/\GI P C n d r' s' a W:=⟨⟨ts,hp,_,yc⟩,r,h,hi,hf.up,by show 100<=base+8*ops.size;omega,hG,hR⟩
 cases fuel with
 | zero=>exact ⟨hr,hq⟩
 | succ k=>exact ⟨λ_=>hq,λi hi=>by rw [hr] at hi;cases hi⟩
theorem eA {ops:Array Oper} {base fuel:Nat} {listed:Array Bool} {ts:eM} {hp:Hp} {yc:Nat} (l:List Nat) (hr:Region.ready .any ops listed=l) (hl:l.isEmpty=false) (h:∀ i∈l,GO P C n d ro ops base fuel listed i ts hp yc K):GA P C n d ro ops base (fuel+1) listed ts hp yc K:=λr a W hi hf hb hG hR=>by
 refine ⟨λh0=>?_,λi hm=>h i (by rw [<-hr];exact hm) r a W hi hf hb hG hR⟩;rw [hr] at h0;rw [h0] at hl;cases hl
theorem AFree.after {ops:Array Oper} {base:Nat} {listed:Array Bool} {hp db:Hp} (h:AFree ops base listed hp) {i:Nat} (hi:i<ops.size) (e:∀ x,hp x=none->¬(base+8*i<=x/\x<base+8*i+8)->db x=none):AFree ops base (listed.setIfInBounds i true) db:=by
 refine ⟨λj hj x h1 h2=>?_,λx hx=>e x (h.up x hx) zO⟩;rw [fU] at hj;split at hj
 ·split at hj<;>cases hj
 ·exact e x (h.at' j hj x h1 h2) zO
theorem KG {l0:og} {o:Oper} {post:og} {base i fuel:Nat} {listed:Array Bool} {ts:eM} {hp:Hp} {yc:Nat} (pn:List FuncId) (hl:l0.drop i=o::post) (jL:(sO n [o]&&GJ P [o])=true) (hi:listed[i]? = some false)
  (h:∀ q:(Nat->Value)->Hp->Tr->Nat->Prop,(∀ ts hp tr yc,GA P C n d ro l0.toArray base fuel (listed.setIfInBounds i true) ts hp yc K->q ts hp tr yc) ->
   pd P C.G ⟨C.Y,pn,false⟩ base ⟨q,λ_ _=>False⟩ ((l0.take i).map (·.dst)).reverse i [o] ts hp [] yc true false):GO P C n d ro l0.toArray base fuel listed i ts hp yc K:=by
 intro r a W TM hf hb hG hR;simp only [bO] at jL;have fJ:=And.intro (pG jL.1 (bE.2 rfl)) (s9 jL.2 o (bE.2 rfl))
 have jM:l0[i]? = some o:=by
  have:=congrArg (λl=>l[0]?) hl;simpa [j6] using this
 have cA:i<l0.length:=(lD.1 jM).1;have hh:=h (λts hp _ yc=>GA P C n d ro l0.toArray base fuel (listed.setIfInBounds i true) ts hp yc K) (λ_ _ _ _ a=>a);have ek:(l0.take i).length=i:=aE
 have hx:sX P C.G ⟨C.Y,pn,false⟩ l0.toArray base (λts hp _ yc=>GA P C n d ro l0.toArray base fuel (listed.setIfInBounds i true) ts hp yc K) (λ_ _=>False) i [o] ts hp [] yc true false:=by
  refine nH (Q:=⟨_,λ_ _=>False⟩) [o] _ i _ _ _ _ _ _ (λj hj=>?_) (λj hj=>?_) hh
  ·rw [BI aE];simp only [uZ,ek,nS,iz];rw [(zO:i - 1 - (i - 1 - j)=j),fT,ai hj];cases l0[j]?<;>rfl
  ·obtain rfl:j=0:=by simpa using hj
   simp [jM]
 have dx:∀ x,base+8*i<=x->x<base+8*i+8->hp x=none:=hf.at' i hi;unfold wpOpIn;rw [iz,jM];simp only;simp only [sX] at hx
 cases hw:gn l0.toArray o ts with
 | none=>rw [hw] at hx;exact hx.elim
 | some b =>
  rw [hw] at hx;rw [pS TM.rel hw]
  cases b with
  | true =>
   simp only at hx;simp only [aU];obtain ⟨e,h1,hs,hyd,h3⟩:=s6 hG TM.glob hx;refine R7 hG hR o e ts hp yc r a W 0 _ _ TM fJ.1 h1 (λx hx=>(hs.ws x hx).2) (λx hx=>?_) (λr' a' W' o7 cv=>?_) (λpv W' xS o7 cv=>?_)
   ·have:=hs.ns x hx;exact ⟨dx x zO zO,zO⟩
   ·rw [o7] at h3;refine h3 r' a' W' cv (hf.after (by simpa using cA) λx PX PY=>?_) hb hG hR;rw [dw (λhm=>?_)]
    ·exact PX
    ·have:x∈ak e.ws\/x∈ak e.ns:=by simpa [ak] using hm
     rcases this with h|h
     ·exact (hs.ws x h).2.1 PX
     ·have:=hs.ns x h;omega
   ·rw [o7] at h3;exact h3.2.2.elim
  | false =>
   simp only at hx;simp only [gB,bY];exact ⟨Lm (Y:=none) o ts r _ a W TM.rel ⟨hx.1,fJ.2⟩,hx.2 r _ W (TM.put_undef fJ.1.1) (hf.after (by simpa using cA) λx PX _=>PX) hb hG hR⟩
theorem lf {G:Hp} {ops:Array Oper} {o:Oper} {base i fuel:Nat} {listed:Array Bool} {ts:eM} {hp db:Hp} {yc:Nat} {c:Call} {f:Operand} {g:FuncId} {cap:bV} {rs:List Nat} {args:bV} {R:AI} (hCG:C.G=G) (hr:FunS P G g args db rs R) (hio:ops[i]? = some o) (hi:listed[i]? = some false) (hg:o.guard=none) (hd:∀ dd,o.dst=some dd->dd<n)
  (ho:o.op=.call c) (hc:c.callee=.value f) (hf:okT ts f) (AF:gev ts f=.func (.func g) #[] cap) (JV:cap.all da=true) (ha:∀ x∈c.args.toList,okX ts hp x) (kv:c.args.map (gev ts)++cap=args)
  (h1:∀ q∈rs,db q=hp q) (h2:∀ q,q<100->db q=hp q) (m9:∀ v ns,R v ns->∀ q∈ak ns,base+8*i<=q/\q<base+8*i+8)
  (h:∀ v ns,R v ns->GA P C n d ro ops base fuel (listed.setIfInBounds i true) (dk ts o.dst v) (bW hp ns) yc K):GO P C n d ro ops base fuel listed i ts hp yc K:=by
 subst hCG;intro r a W TM L5 hb hG hR;unfold wpOpIn;rw [hio];simp only [Region.wanted,hg,aU];exact D8
theorem mA {p:gA} {a b:Nat} (h1:p a) (h2:p b):∀ i∈[a,b],p i:=λi hi=>by
 simp at hi;rcases hi with rfl|rfl
 ·exact h1
 ·exact h2
theorem iv {p:gA} {a:Nat} (h1:p a):∀ i∈[a],p i:=λi hi=>by
 simp at hi;subst hi;exact h1
end
section
variable {P:Program} {C:Ctx} {n:Nat} {d:List Deferred} {ro:Option Nat} {s:GS} {K:kV}
theorem gwo {l0:og} {o:Oper} {post:og} {base i fuel:Nat} {listed:Array Bool} {ts:eM} {hp:Hp} {yc:Nat}
  (h:∀ q:(Nat->Value)->Hp->Tr->Nat->Prop,(∀ ts hp tr yc,GA P C n d ro l0.toArray base fuel (listed.setIfInBounds i true) ts hp yc K->q ts hp tr yc) ->
   pd P C.G ⟨C.Y,[],false⟩ base ⟨q,λ_ _=>False⟩ ((l0.take i).map (·.dst)).reverse i [o] ts hp [] yc true false) (hl:l0.drop i=o::post:=by rfl) (jL:(sO n [o]&&GJ P [o])=true:=by kernel_rfl) (hi:listed[i]? = some false:=by first|assumption|simp):GO P C n d ro l0.toArray base fuel listed i ts hp yc K:=KG [] hl jL hi h
end
theorem uj {P Q F:Prop} (f:F) (q:Q) (h:F->Q->P:=by intro f q;refine gwo (hi:=by first|exact hi|simp) ?_;intro Q hQ;simp [hC,hY,f];apply hQ;exact q):P:=h f q
abbrev lH := @List.mem_range
abbrev uL := @Option.getD_some
abbrev BD := @List.mem_zipIdx_iff_getElem?
@[simp] theorem af8:bz (.map none)=true:=by simp [bz,o6,bP,mD]
theorem KU:∀ (l:List Bool) (i:Nat),l[i]? = some false->(l.set i true).count false+1=l.count false
 | [],i,h=>by simp at h
 | a::l,0,h=>by simp at h;subst h;simp
 | a::l,i+1,h=>by
  have:=KU l i kA;simp only [List.set_cons_succ,List.count_cons];omega
theorem mem_ready {md:Region.Mode} {ops:Array Oper} {listed:Array Bool} (hs:listed.size=ops.size) {i:Nat}:i∈Region.ready md ops listed↔listed[i]? = some false/\∀ o,ops[i]? = some o->∀ e∈o.after,Region.binds md e=true->listed[e.on]? = some true:=by
 unfold Region.ready;simp only [List.mem_filter,lH,bO,nP];constructor
 ·rintro ⟨h1,h2,h3⟩;have e1:listed[i]? = some listed[i]:=iE zO;refine ⟨?_,λo ho e he hb=>?_⟩
  ·simp only [jl,e1,uL] at h2;rw [e1,h2]
  ·rw [ho] at h3;simp only [gL,uL,cV] at h3;have:=h3 e he;rw [hb] at this;simp only [Bool.not_true,Bool.false_or,jl] at this
   cases hl:listed[e.on]? with
   | none=>rw [hl] at this;simp at this
   | some b=>rw [hl] at this;simp at this;rw [this]
 ·rintro ⟨h1,h2⟩;have cA:i<ops.size:=by have:=(a9.1 h1).1;omega
  refine ⟨cA,by simp [jl,h1],?_⟩;rw [iE cA];simp only [gL,uL,cV,qv,nP];intro e he
  cases hb:Region.binds md e with
  | false=>exact .inl rfl
  | true=>right;simp [jl,h2 _ (iE cA) e he hb]
theorem UK {md:Region.Mode} {ops:Array Oper} {listed:Array Bool} (hs:listed.size=ops.size) (cA:(ops.toList.zipIdx.all λp=>p.1.after.all λe=>decide (e.on<p.2))=true) (h:Region.ready md ops listed=[]):∀ i,i<ops.size->listed[i]? = some true:=by
 intro i
 induction i using Nat.strongRecOn with
 | _ i ih =>
  intro hi;have e1:listed[i]? = some listed[i]:=iE zO
  cases hb:listed[i] with
  | true=>rw [e1,hb]
  | false =>
   exfalso
   have:i∈Region.ready md ops listed:=(mem_ready hs).2 ⟨by rw [e1,hb],λo ho e he _=>by
    have hm:(o,i)∈ops.toList.zipIdx:=by
     rw [BD];simpa using ho
    have:=dL.1 cA _ hm;have:=cV.1 this e he;have h3:e.on<i:=by simpa using this
    exact ih _ h3 zO⟩
   rw [h] at this;cases this
section
variable {P:Program} {C:Ctx} {n:Nat} {d:List Deferred} {ro:Option Nat} {K:kV}
theorem VR {G:Hp} {ops:Array Oper} {o:Oper} {post:og} {base k:Nat} (sh:Nat) {ts:eM} {hp db:Hp} {yc:Nat} {c:Call} {f:Operand} {g:FuncId} {cap:bV} {rs:List Nat} {args:bV} {R:AI} (hCG:C.G=G) (hr:FunS P G g args db rs R) (hg:o.guard=none) (hd:∀ dd,o.dst=some dd->dd<n)
  (ho:o.op=.call c) (hc:c.callee=.value f) (hf:okT ts f) (AF:gev ts f=.func (.func g) #[] cap) (JV:cap.all da=true) (ha:∀ x∈c.args.toList,okX ts hp x) (kv:c.args.map (gev ts)++cap=args)
  (h1:∀ q∈rs,db q=hp q) (h2:∀ q,q<100->db q=hp q) (m9:∀ v ns,R v ns->∀ q∈ak ns,base+8*k<=q/\q<base+sh+8*k+8)
  (h:∀ v ns,R v ns->GL P C n d ro ops (base+sh) (k+1) post (dk ts o.dst v) (bW hp ns) yc K):GL P C n d ro ops base k (o::post) ts hp yc K:=by
 subst hCG;intro r a W hi L5 hb hG hR;refine wpListIn_plain hg λK' JS=>?_;refine zn hG hi hd ho hc hf AF JV ha rH (λv ns Jg q hq=>L5 q (m9 v ns Jg q hq).1) (λv ns Jg r' a' W' cv=>JS _ _ (h v ns Jg r' a' W' cv (λx hx=>?_) zO hG hR));exact FK
theorem Hb {ops:Array Oper} {base yc:Nat} (I:Array Bool->(Nat->Value)->Hp->Prop)
  (fin:∀ listed ts hp,listed.size=ops.size->Region.ready .any ops listed=[]->I listed ts hp->K .normal ⟨ts,hp,base+8*ops.size,yc⟩)
  (step:∀ fuel listed ts hp i,listed.size=ops.size->listed[i]? = some false->(∀ o,ops[i]? = some o->∀ e∈o.after,Region.binds .any e=true->listed[e.on]? = some true)->I listed ts hp ->
   (∀ oW db,I (listed.setIfInBounds i true) oW db->GA P C n d ro ops base fuel (listed.setIfInBounds i true) oW db yc K)->GO P C n d ro ops base fuel listed i ts hp yc K) :
  ∀ (fuel:Nat) (listed:Array Bool) (ts:eM) (hp:Hp),listed.size=ops.size->listed.toList.count false<=fuel->I listed ts hp->GA P C n d ro ops base fuel listed ts hp yc K
 | 0,listed,ts,hp,hs,hc,hI=>by
  have hr:Region.ready .any ops listed=[]:=by
   cases h:Region.ready .any ops listed with
   | nil=>rfl
   | cons i l =>
    have hm:i∈Region.ready .any ops listed:=by rw [h];simp
    have h1:=((mem_ready hs).1 hm).1;have h2:=KU listed.toList i (by simpa using h1);omega
  exact Hc hr (fin _ _ _ hs hr hI)
 | fuel+1,listed,ts,hp,hs,hc,hI=>by
  cases h:Region.ready .any ops listed with
  | nil=>exact Hc h (fin _ _ _ hs h hI)
  | cons i l =>
   refine eA _ rfl (by rw [h];rfl) λj hj=>?_;obtain ⟨h1,h2⟩:=(mem_ready hs).1 hj;refine step fuel listed ts hp j hs h1 h2 hI λoW db hI'=>?_;have h3:=KU listed.toList j (by simpa using h1);exact Hb I fin step fuel _ _ _ (by simpa using hs) (by simp only [Array.toList_setIfInBounds];omega) hI'
end
end Go.Gy
