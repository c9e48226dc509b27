/-
  Lemmas of this claim, in their order (GyRK, GyK, GyK3, GyK4, GyQ, GyT2, GyK5, GyK6, GyK7, GyN, GyLA, GyP, GyO, GyO2).
  Conditions: those of each theorem.
-/
import Derived.Test.YtmnknnojkhkceaaGreatDoorGz01
import Derived.ArgAppend
import Derived.RecoverIn
import Derived.Test.YtmnknnojkhkceaaGreatDoorProg
import Derived.WalkKit
set_option linter.unusedSimpArgs false
set_option linter.unusedVariables false
namespace Go.Gy
open Go Go.RowKit
section
variable {P:Program} {G:Hp}
structure IterK (P:Program) (G:Hp) (f:FuncId) (caps:Array Value) (hp:Hp) (rs:List Nat) (xs:List (Array Value)):Prop where
 enter:∀ a w,(callFunc f a).run P w=.ok (.enter f a) w
 cids:∀ x∈caps,zbs x=true/\zap (dom (rst hp rs)) x
 closed:∀ k b,rst hp rs k=some b->b.ids (dom (rst hp rs))
 run:∀ (E:Ext) (l stop:Nat) r S W,GOK G W->Sat r (dom (rst hp rs)) (rst hp rs) W->Inj r (dom (rst hp rs))->(∀ k,k<100->dom (rst hp rs) k->r k=k)->zgg P G E ⟨l,xs,stop,none⟩->E.X 0 S W->(∀ k,S k->k<W.heap.size) ->
  (∀ i,dom (rst hp rs) i->100<=i->¬S (r i)) ->
  zef P f (#[Value.func (.yield l) #[] #[]]++caps.map (ren r)) W λe W'=>(∃ v,e=.returned v)/\(∃ S',E.X (min (stop+1) xs.length) S' W')/\∀ k,dom (rst hp rs) k->W'.heap[r k]? = W.heap[r k]?
theorem IterK.g {f:FuncId} {caps:Array Value} {hp:Hp} {rs:List Nat} {xs:List (Array Value)} (h:IterK P G f caps hp rs xs):zhl P G f caps hp rs xs :=
 ⟨h.enter,h.cids,h.closed,λE l stop r S W h1 h2 h3 h4 _ h5 h6 h7 h8=>(h.run E l stop r S W h1 h2 h3 h4 h5 h6 h7 h8).mono λ_ _ hh=>⟨hh.1,hh.2.1⟩⟩
theorem zsz {f:FuncId} {fn:Func} {c:Code} {caps:Array Value} {hp:Hp} {rs:List Nat} {xs:List (Array Value)} {B:Nat} {v:Value} (hGF:zbm G) (hG:∀ k,k<100->hp k=G k) (hf:P.funcs[f]? = some fn) (hb:fn.body=some c) (hcall:∀ a w,(callFunc f a).run P w=.ok (.enter f a) w)
  (ha:∀ x∈caps,zbs x=true/\zap (dom (rst hp rs)) x) (hcl:∀ k b,rst hp rs k=some b->b.ids (dom (rst hp rs))) (hn:caps.size+1<=fn.ntmps) (hB:100<=B) (hfree:∀ x,B<=x->rst hp rs x=none)
  (h:∀ (C:Ctx) (l stop:Nat),C.G=G->C.hp0=rst hp rs->C.Y=some ⟨l,xs,stop,none⟩->GW P C fn.ntmps [] none c ⟨λt=>(#[Value.func (.yield l) #[] #[]]++caps).getD t undef,rst hp rs,B,0⟩
   (λe s=>(e=.normal\/e=.ret)/\znj P fn.results.toList s.ts s.hp=some v/\s.yc=min (stop+1) xs.length/\∀ k,dom (rst hp rs) k->s.hp k=rst hp rs k)):IterK P G f caps hp rs xs:=by
 refine ⟨hcall,ha,hcl,λE l stop r S W hgok hsat hinj hlow hR hX hS hdis=>callsIn_of_wp_marks hf hb ⟨fn,hf⟩ ?_⟩
 let C:Ctx:=⟨E,rst hp rs,r,G,some ⟨l,xs,stop,none⟩⟩
 have hi:GI P C fn.ntmps [] r ⟨λt=>(#[Value.func (.yield l) #[] #[]]++caps).getD t undef,rst hp rs,B,0⟩
   { tmps:=(#[Value.func (.yield l) #[] #[]]++caps.map (ren r))++Array.replicate (fn.ntmps - (#[Value.func (.yield l) #[] #[]]++caps.map (ren r)).size) undef,defers:=[] } W:=by
  have hsz:(#[Value.func (.yield l) #[] #[]]++caps.map (ren r)).size=(#[Value.func (.yield l) #[] #[]]++caps).size:=by simp
  have hmap:#[Value.func (.yield l) #[] #[]]++caps.map (ren r)=(#[Value.func (.yield l) #[] #[]]++caps).map (ren r):=by simp [ren,zas,zan]
  refine ⟨⟨?_,λt=>?_,hsat,hinj,⟨S,[],hX,hS,λi hi h1=>hdis i hi h1,⟨rfl,List.nodup_nil⟩,by simp⟩,λi hi=>⟨hi,rfl⟩,λk hk=>?_,hlow⟩,hfree,hB,hGF,λy hy=>by cases hy;exact hR⟩
  ·simp only [Array.size_append,Array.size_replicate,hsz]
   simp
   omega
  ·right
   dsimp only
   rw [hmap]
   generalize hA:#[Value.func (.yield l) #[] #[]]++caps=A
   have hAi:∀ x∈A,zap (dom (rst hp rs)) x:=λx hx=>by
    rw [<-hA] at hx
    rcases Array.mem_append.1 hx with hx|hx
    ·simp at hx;subst hx;simp [zap,zau,zaj]
    ·exact (ha x hx).2
   by_cases ht:t<A.size
   ·have hm:A[t]∈A:=Array.getElem_mem ht
    have e:A.getD t undef=A[t]:=by simp [Array.getD,ht]
    rw [e]
    refine ⟨?_,hAi _ hm⟩
    have:t<(A.map (ren r)).size:=by simpa using ht
    simp [Array.getElem?_append_left this,ht]
   ·have e:A.getD t undef=undef:=by simp [Array.getElem?_eq_none (Nat.le_of_not_lt ht)]
    rw [e]
    refine ⟨?_,zdb _⟩
    rw [zcp]
    simp only [Array.getD_eq_getD_getElem?]
    rw [Array.getElem?_append_right (by simpa using Nat.le_of_not_lt ht),Array.getElem?_replicate]
    split<;>rfl
  ·show rst hp rs k=G k
   simp [rst,hk,hG k hk]
 refine wpIn_mono (h C l stop rfl rfl rfl r _ W hi) ?_
 rintro e a' W' ⟨s',r',hres,hi'⟩
 obtain ⟨S',ms,hX',hS1,hS2,⟨hdef,hnd⟩,hms⟩:=hi'.ri.ext
 obtain ⟨he,hr,hy,hkp⟩:=hres
 have hend:∀ W'':World,W''.heap.size=W'.heap.size->W''.os=W'.os->W''.tape=W'.tape->W''.output=W'.output->(∀ k,k∉ms->W''.heap[k]? = W'.heap[k]?) ->
   LeavesIn (Fw P none) 0 P fn a'.tmps (λe W'=>(∃ v,e=.returned v)/\(∃ S',E.X (min (stop+1) xs.length) S' W')/\∀ k,dom (rst hp rs) k->W'.heap[r k]? = W.heap[r k]?) [] .returning W'':=λW'' e1 e2 e3 e4 e5=>by
  have hsat':Sat r' (dom s'.hp) s'.hp W'':=λk b hk=>⟨by
   rw [e5 _ (λhm=>hi'.ri.ne_mark (by unfold dom;rw [hk];simp) (hms _ hm).1 rfl)]
   exact (hi'.ri.sat k b hk).1,(hi'.ri.sat k b hk).2⟩
  refine ⟨_,zem (fn:=fn) hi'.ri.rel hsat' hr,⟨_,rfl⟩,⟨S',?_⟩,λk hk=>?_⟩
  rotate_left
  ·have hkk:dom s'.hp k/\r' k=r k:=hi'.ri.keep k hk
   unfold dom at hk
   cases hb:rst hp rs k with
   | none=>exact absurd hb hk
   | some b =>
    have e6:s'.hp k=some b:=(hkp k (by unfold dom;rw [hb];simp)).trans hb
    have e7:=(hsat' k b e6).1
    rw [hkk.2,Blk.obj_congr (λq hq=>(hi'.ri.keep q hq).2) (hcl k b hb)] at e7
    rw [e7,(hsat k b hb).1]
  rw [<-hy]
  exact E.ok _ _ _ _ hX' (λk hk=>e5 k λhm=>(hms k hm).2.1 hk) e2 e3 e4 (by rw [e1];exact Nat.le_refl _)
 rcases he with rfl|rfl
 ·show LeavesInM _ _ _ _ _ _ a'.defers _ _
  rw [hdef,List.append_nil]
  exact zdx (by simp) ms W' hnd (λD hD=>(hms D hD).1) hend
 ·show LeavesInM _ _ _ _ _ _ a'.defers _ _
  rw [hdef,List.append_nil]
  exact zdx (by simp) ms W' hnd (λD hD=>(hms D hD).1) hend
end
section
variable {P:Program} {G:Hp}
variable {C:Ctx} {n:Nat} {d:List Deferred} {s:GS} {K:Exit->GS->Prop}
theorem zz9 {t:Tmp} {ps:Array Tmp} {assign body:Code} {f:FuncId} {caps:Array Value} {rs:List Nat} {xs:List (Array Value)} (hg:s.ts t=.func (.func f) #[] caps) (hit:IterK P C.G f caps s.hp rs xs)
  (hxs:∀ x∈xs,x.size=ps.size/\∀ v∈x,za0 v=true) (hps:∀ p∈ps,p<n) (tsE:Nat->Value) (I:Nat->Hp->Prop) {hpS:Hp} (B:Nat) (N:Nat) (hN:N<=xs.length)
  (hw:Weak C s ⟨tsE,hpS,B,s.yc⟩) (h0:I 0 hpS) (hdis:∀ k∈rs,hpS k=none/\dom s.hp k)
  (rounds:∀ i x hq,i<N->xs[i]? = some x->I i hq->∀ (C1:Ctx) (l:Nat),C1.G=C.G->C1.hp0=hq->C1.Y=none->GW P C1 n [] (some l) assign ⟨za3 ps.toList x.toList tsE,hq,B,0⟩
   (zcy (λs1=>∀ C2:Ctx,C2.G=C.G->C2.hp0=hq->C2.Y=none->GW P C2 n [] (some l) body s1 (zcy (λs2=>∃ ρ hq',WeakR C ρ ⟨tsE,s2.hp,s2.B,s.yc⟩ ⟨tsE,hq',B,s.yc⟩/\I (i+1) hq') (λ_ _=>False))) (λ_ _=>False)))
  (fin:(N=xs.length/\∀ hq,I N hq->K .normal ⟨tsE,hq,B,s.yc⟩)\/∃ x,xs[N]? = some x/\∀ hq,I N hq->∀ (C1:Ctx) (l:Nat),C1.G=C.G->C1.hp0=hq->C1.Y=none->GW P C1 n [] (some l) assign ⟨za3 ps.toList x.toList tsE,hq,B,0⟩
    (zcy (λs1=>∀ C2:Ctx,C2.G=C.G->C2.hp0=hq->C2.Y=none->GW P C2 n [] (some l) body s1 (λe s2=>(zb7 e).isSome=true/\(∀ t,zap (dom s2.hp) (tsE t))/\K e ⟨tsE,s2.hp,s2.B,s.yc⟩)) (λ_ _=>False)))
  (hYn:C.Y≠some .still) {r:Nat->Nat} {a:Act} {W:World} (hi0:GI P C n d r s a W) :
  (Code.rangeFunc (.tmp t) ps assign body).wpIn (Fw P none) 0 P (λe a' W'=>∃ s' r',(K e s'/\GI P C n d r' s' a' W')/\a'.tmps=a.tmps/\(∀ k,dom (rst s.hp rs) k->W'.heap[r k]? = W.heap[r k]?)/\(∀ i,dom s'.hp i->∀ k∈rs,100<=k->r' i≠r k)) a W:=by
 obtain ⟨pn,hpn⟩:∃ pn:Option Value,pn=none:=⟨_,rfl⟩
 have hi:=hi0.weak hw
 obtain ⟨So,ms,hX0,hSo,hsep,⟨hdef,hnd⟩,hms⟩:=hi0.ri.ext
 have hcapv:a.eval (.tmp t)=.func (.func f) #[] (caps.map (zao r)):=by
  have:=((hi0.ri.rel t).resolve_left (by rw [hg];simp [zbz])).1
  rw [hg] at this
  simpa [ren,zas,zan,Act.eval] using this
 have hcap:caps.map (zao r)=caps.map (ren r):=Array.map_congr_left λx hx=>(zc8 (hit.cids x hx).1).symm
 rw [hcap] at hcapv
 refine wpIn_rangeFunc ?_
 rintro fn ⟨fnn,hfnn⟩
 obtain ⟨rec,hrec⟩:∃ rec:LoopState->Option Code->Loop,rec=λst pe=>{ state:=st,pending:=pe,fn,tmps:=a.tmps,params:=ps,assign,body,defers:=W.heap.size }:=⟨_,rfl⟩
 obtain ⟨W1,hW1⟩:∃ W1,(W.alloc (.deferred (some []))).alloc (.loop (rec .ready none))=W1:=⟨_,rfl⟩
 have hL1:W1.heap[W.heap.size+1]? = some (.loop (rec .ready none)):=by
  rw [<-hW1];have:=World.alloc_heap_new (W.alloc (.deferred (some []))) (.loop (rec .ready none));rwa [World.size_alloc] at this
 have hK1:W1.heap[W.heap.size]? = some (.deferred (some [])):=by
  rw [<-hW1];exact (Below.heap_alloc _ _ _ (by simp)).trans (World.alloc_heap_new W _)
 have hsz1:W1.heap.size=W.heap.size+2:=by rw [<-hW1];simp
 have hb1:Below W.heap.size W W1:=by
  rw [<-hW1];exact (((Below.refl _ W).alloc (Nat.le_refl _) _).alloc (by simp) _)
 let l:=W.heap.size+1
 let D0:=W.heap.size
 let capd:Nat->Prop:=λj=>∃ i,i∈rs/\100<=i/\r i=j
 -- what is said between two rounds
 let Lv:LoopState->Option Code->World->Prop:=λst pe V=>V.heap[l]? = some (.loop (rec st pe))/\V.heap[D0]? = some (.deferred (some []))
 let XX:Nat->(Nat->Prop)->World->Prop:=λc S V=>(∀ k,So k->S k)/\(∀ D∈ms,S D)/\S l/\S D0/\(∀ k,S k->¬capd k) /\
  ((c<=N/\∃ hq,I c hq/\(∀ x,B<=x->hq x=none)/\∃ rc,(∀ i,dom hq i->S (rc i))/\zqg S V (λV'=>Own0 C d So ms s.yc a rc tsE hq V'/\Lv .ready none V')) \/
  (c=N+1/\∃ e hpE BE rc,((pn=none/\(zb7 e).isSome=true)\/∃ pv,pn=some pv/\e=.panic [{ v:=pv,recovered:=false }])/\K e ⟨tsE,hpE,BE,s.yc⟩/\(∀ x,BE<=x->hpE x=none)/\100<=BE/\(∀ i,dom hpE i->S (rc i))/\zqg S V (λV'=>Own0 C d So ms s.yc a rc tsE hpE V'/\V'.heap[D0]? = some (.deferred (some []))/\∀ j,zb7 e=some j->Lv .done (some j) V')))
 let E:Ext:=⟨XX,λc S V V' h hs os tape output size=>⟨h.1,h.2.1,h.2.2.1,h.2.2.2.1,h.2.2.2.2.1,h.2.2.2.2.2.imp (λ⟨hc,hq,hI,hf,rc,h1,h2⟩=>⟨hc,hq,hI,hf,rc,h1,h2.trans (λ_ h=>h) hs os tape output size⟩)
  (λ⟨hc,e,hpE,BE,rc,h1,h2,h3,h4,h5,h6⟩=>⟨hc,e,hpE,BE,rc,h1,h2,h3,h4,h5,h6.trans (λ_ h=>h) hs os tape output size⟩)⟩⟩
 have sub:∀ i,dom (hpS) i->dom s.hp i:=λi hd=>by
  have hhp:hpS i=none\/hpS i=s.hp i:=by
   by_cases hk:100<=i
   ·exact hw.hp i hk
   ·exact .inr ((hw.glob i (by omega)).trans (hi0.ri.glob i (by omega)).symm)
  rcases hhp with e|e
  ·exact absurd e hd
  ·have e:hpS i=s.hp i:=e
   unfold dom at *;rw [<-e];exact hd
 have own0:Own0 C d So ms s.yc a r tsE (hpS) W1:=⟨hi.ri.rel,λk b hk=>⟨(hb1.block _ (hi.ri.lt (k:=k) (by unfold dom;show hpS k≠none;rw [hk];simp))).trans (hi.ri.sat k b hk).1,(hi.ri.sat k b hk).2⟩,hi.ri.inj,
  C.E.ok _ _ _ _ hX0 (λk hk=>hb1.block k (hSo k hk)) hb1.os hb1.tape hb1.output hb1.size,λi hd h1=>hsep i (sub i hd) h1,
  λD hD=>(hb1.block D (Array.getElem?_eq_some_iff.1 (hms D hD).1).1).trans (hms D hD).1,hi.ri.keep,hi.ri.glob,hi.ri.low⟩
 have incap:∀ i,dom s.hp i->capd (r i)->i∈rs:=λi hd ⟨j,hj,_,e⟩=>by
  have:=hi0.ri.inj j i (hdis j hj).2 hd e
  exact this▸hj
 let S1:Nat->Prop:=λk=>k<W1.heap.size/\¬capd k
 have capSmall:∀ k,capd k->k<W.heap.size:=λk ⟨i,hi1,_,e⟩=>e▸hi0.ri.lt (hdis i hi1).2
 have s1So:∀ k,So k->S1 k:=λk hk=>⟨by have:=hSo k hk;omega,λ⟨i,hi1,h1,e⟩=>hsep i (hdis i hi1).2 h1 (e▸hk)⟩
 have s1ms:∀ D∈ms,S1 D:=λD hD=>⟨by have:=(Array.getElem?_eq_some_iff.1 (hms D hD).1).1;omega,λ⟨i,hi1,_,e⟩=>hi0.ri.ne_mark (hdis i hi1).2 (hms D hD).1 e⟩
 have s1l:S1 l:=⟨by omega,λhc=>by have:=capSmall _ hc;omega⟩
 have s1D:S1 D0:=⟨by omega,λhc=>by have:=capSmall _ hc;omega⟩
 have s1hp:∀ i,dom (hpS) i->S1 (r i):=λi hd=>⟨by have:=hi0.ri.lt (sub i hd);omega,λhc=>hd (hdis i (incap i (sub i hd) hc)).1⟩
 have X0:XX 0 S1 W1:=⟨s1So,s1ms,s1l,s1D,λk hk=>hk.2,.inl ⟨Nat.zero_le _,hpS,h0,hw.free,r,s1hp,λV k1 k2 k3 k4 k5=>⟨own0.supp s1So s1hp s1ms V k1 k2 k3 k4 k5,(k1 l s1l).trans hL1,(k1 D0 s1D).trans hK1⟩⟩⟩
 have gokOf:∀ {rc:Nat->Nat} {hpc:Hp} {V:World},Sat rc (dom hpc) hpc V->(∀ k,k<100->hpc k=C.G k)->(∀ k,k<100->dom hpc k->rc k=k)->GOK C.G V:=λ{rc hpc V} h1 h2 h3 k b hk=>by
  obtain ⟨hlt,hfl⟩:=hi0.flat k b hk
  have hb:hpc k=some b:=(h2 k hlt).trans hk
  have h9:=(h1 k b hb).1
  rw [h3 k hlt (by unfold dom;rw [hb];simp)] at h9
  rw [h9]
  rw [Blk.obj_flat (λx hx=>hfl x hx)]
 -- one round
 have hround:zgg P C.G E ⟨l,xs,N,pn⟩:=by
  intro c x S V hgok hx hc hXc hSV
  obtain ⟨kSo,kms,kl,kD,kcap,hcase⟩:=hXc
  have hcN:c<=N:=hc
  obtain ⟨hc',hq,hI,hfreeC,rc,hrcS,hsupp⟩:c<=N/\∃ hq,I c hq/\(∀ x,B<=x->hq x=none)/\∃ rc,(∀ i,dom hq i->S (rc i))/\zqg S V (λV'=>Own0 C d So ms s.yc a rc tsE hq V'/\Lv .ready none V'):=by
   rcases hcase with h|h
   ·exact h
   ·omega
  obtain ⟨hown,hl,hD⟩:=hsupp.here
  have hxm:=hxs x (List.mem_of_getElem? hx)
  have hy:=run_yield (P:=P) (args:=x) hl (by rw [hrec];exact hxm.1)
  rw [hrec] at hy
  refine ⟨fn,_,assign,body,hy,zga ⟨fnn,hfnn⟩ hfnn ?_⟩
  have hrel:=znl (r:=rc) (D:=dom hq) (ps.toList.zip x.toList) tsE a.tmps (λp hp1=>⟨by rw [hi0.ri.size];exact hps _ (by simpa using (List.of_mem_zip hp1).1),hxm.2 _ (by simpa using (List.of_mem_zip hp1).2)⟩) hown.ri
  have htm:(ps.zip x).foldl (λt (p:Tmp×Value)=>t.setIfInBounds p.1 p.2) a.tmps=(ps.toList.zip x.toList).foldl (λt (p:Tmp×Value)=>t.setIfInBounds p.1 p.2) a.tmps:=by
   rw [<-Array.foldl_toList,Array.toList_zip]
  have hsize:((ps.zip x).foldl (λt (p:Tmp×Value)=>t.setIfInBounds p.1 p.2) a.tmps).size=n:=by
   rw [htm,zfg,hi0.ri.size]
  let im:Nat->Prop:=imO rc hq
  let RR:Ending->World->Prop:=λe W'=>(match (YG.mk l xs N pn).pan c with|none=>e=.returned (.bool (c != N))|some pv=>e=.panicked [{ v:=pv,recovered:=false }])/\GOK C.G W'/\V.heap.size<=W'.heap.size/\(∀ k,k<V.heap.size->¬S k->W'.heap[k]? = V.heap[k]?) /\
      ∃ S',XX (c+1) S' W'/\(∀ k,S' k->k<W'.heap.size)/\∀ k,S' k->k<V.heap.size->S k
  -- the assignment to the loop's variables
  let C1:Ctx:=⟨zff V im,hq,rc,C.G,none⟩
  have ltV:∀ i,dom hq i->rc i<V.heap.size:=λi hd=>hSV _ (hrcS i hd)
  have gi1:GI P C1 n [] rc ⟨za3 ps.toList x.toList tsE,hq,B,0⟩ { tmps:=(ps.zip x).foldl (λt (p:Tmp×Value)=>t.setIfInBounds p.1 p.2) a.tmps,defers:=[] } V:=by
   refine ⟨⟨hsize,?_,hown.sat,hown.inj,⟨λk=>k<V.heap.size/\¬im k,[],⟨λ_=>Iff.rfl,rfl,rfl,rfl,Nat.le_refl _,λ_ _=>rfl⟩,λk hk=>hk.1,λi hd _ hS=>hS.2 ⟨i,hd,rfl⟩,⟨rfl,List.nodup_nil⟩,by simp⟩,λi hd=>⟨hd,rfl⟩,hown.glob,hown.low⟩,hfreeC,hw.low,hi0.flat,λy hy=>by cases hy⟩
   rw [htm];exact hrel
  have hSol:¬So l:=λh=>by have:=hSo _ h;omega
  -- a round's frame,from its assignment on
  have both:∀ (Kb:Exit->GS->Prop),GW P C1 n [] (some l) assign ⟨za3 ps.toList x.toList tsE,hq,B,0⟩ (zcy (λs1=>∀ C2:Ctx,C2.G=C.G->C2.hp0=hq->C2.Y=none->GW P C2 n [] (some l) body s1 Kb) (λ_ _=>False)) ->
    (∀ e s2 (r2:Nat->Nat) (V1 V2:World) (a1 a2:Act) (r1:Nat->Nat) (ts1:Nat->Value) (hp1:Hp) (y1:Nat) (D1:Nat->Prop),(∀ k,k<V.heap.size->D1 k->imO r1 hp1 k)->¬D1 l->Kb e s2->RI ⟨zff V im,hq,rc,C.G,none⟩ n [] r1 ts1 hp1 y1 a1 V1 ->
     GI P ⟨zff (V1.putObj l (.loop (rec .busy none))) D1,hq,rc,C.G,none⟩ n [] r2 s2 a2 V2->zft (Fs P) 0 P fnn l RR e a2 V2) ->
    assign.wpIn ((Fs P).inRound l) 0 P (Exit.then (λa₁ w₁=>∃ w₂,(Instr.beginRound l).run P w₁=.ok () w₂/\body.wpIn ((Fs P).inRound l) 0 P (zft (Fs P) 0 P fnn l RR) a₁ w₂) (λ_ _ _=>False))
     { tmps:=(ps.zip x).foldl (λt (p:Tmp×Value)=>t.setIfInBounds p.1 p.2) a.tmps,defers:=[] } V:=λKb hgw hend=>by
   refine wpIn_mono (hgw rc _ V gi1) ?_
   rintro e a1 V1 ⟨s1,r1,hk1,gi⟩
   cases e with
   | normal =>
    obtain ⟨T1,m1,⟨hT1,os1,tp1,ou1,sz1,sm1⟩,hT1s,sep1,df1,dm1⟩:=gi.ri.ext
    have hl1:V1.heap[l]? = some (.loop (rec .ready none)):=by
     rw [sm1 l ((hT1 l).2 ⟨hSV l kl,?_⟩)]
     ·exact hl
     ·rintro ⟨i,hd,e⟩
      unfold dom at hd
      cases hb:hq i with
      | none=>exact hd hb
      | some b=>have:=(hown.sat i b hb).1;rw [e,hl] at this;exact (Blk.obj_loop this).elim
    refine ⟨_,run_beginRound hl1 (by rw [hrec]),?_⟩
    have hrb:{ rec .ready none with state:=.busy }=rec .busy none:=by rw [hrec]
    rw [hrb]
    have hlt1:l<V1.heap.size:=(Array.getElem?_eq_some_iff.1 hl1).1
    let D1:Nat->Prop:=λk=>imO r1 s1.hp k\/k∈m1
    let C2:Ctx:=⟨zff (V1.putObj l (.loop (rec .busy none))) D1,hq,rc,C.G,none⟩
    have gi2:GI P C2 n [] r1 s1 a1 (V1.putObj l (.loop (rec .busy none))):=by
     refine ⟨⟨gi.ri.size,gi.ri.rel,λk b hk=>⟨(World.putObj_heap_other (λe=>gi.ri.not_loop hl1 ⟨k,by unfold dom;rw [hk];simp,e⟩)).trans (gi.ri.sat k b hk).1,(gi.ri.sat k b hk).2⟩,gi.ri.inj,
      ⟨λk=>k<(V1.putObj l (.loop (rec .busy none))).heap.size/\¬D1 k,m1,⟨λ_=>Iff.rfl,rfl,rfl,rfl,Nat.le_refl _,λ_ _=>rfl⟩,λk hk=>hk.1,λi hd _ hS=>hS.2 (.inl ⟨i,hd,rfl⟩),df1,λD hD=>⟨?_,(λhS=>hS.2 (.inr hD)),λh=>nomatch h⟩⟩,
      λi hd=>gi.ri.keep i hd,gi.ri.glob,gi.ri.low⟩,gi.free,gi.low,gi.flat,λy hy=>by cases hy⟩
     rw [World.putObj_heap_other (λe=>?_)]
     ·exact (dm1 D hD).1
     ·have:=(dm1 D hD).1;rw [e,hl1] at this;cases this
    refine wpIn_mono (hk1 C2 rfl rfl rfl r1 a1 _ gi2) ?_
    rintro e2 a2 V2 ⟨s2,r2,hk2,gi3⟩
    refine hend e2 s2 r2 V1 V2 a1 a2 r1 s1.ts s1.hp s1.yc D1 (λk hk hD=>?_) (λhD=>?_) hk2 gi.ri gi3
    ·rcases hD with h|h
     ·exact h
     ·have h2:=(dm1 k h).2.1
      rw [hT1] at h2
      obtain ⟨i,hd,e⟩:=Classical.byContradiction λhc=>h2 ⟨hk,hc⟩
      have h3:=(dm1 k h).1
      by_cases h100:100<=i
      ·have:dom s1.hp i/\r1 i=rc i:=gi.ri.keep i hd
       exact ⟨i,this.1,this.2.trans e⟩
      ·have:dom s1.hp i/\r1 i=rc i:=gi.ri.keep i hd
       exact ⟨i,this.1,this.2.trans e⟩
    ·rcases hD with h|h
     ·exact gi.ri.not_loop hl1 h
     ·have:=(dm1 l h).1;rw [hl1] at this;cases this
   | _=>exact hk1.elim
  -- what a round leaves,put together
  have post:∀ (st:LoopState) (pe:Option Code) (r2:Nat->Nat) (V1 V2:World) (a1 a2:Act) (r1:Nat->Nat) (ts1 ts2:Nat->Value) (hp1 hp2:Hp) (y1 y2:Nat) (D1:Nat->Prop),(∀ k,k<V.heap.size->D1 k->imO r1 hp1 k)->¬D1 l->RI ⟨zff V im,hq,rc,C.G,none⟩ n [] r1 ts1 hp1 y1 a1 V1 ->
    RI ⟨zff (V1.putObj l (.loop (rec .busy none))) D1,hq,rc,C.G,none⟩ n [] r2 ts2 hp2 y2 a2 V2 ->
    V2.heap[l]? = some (.loop (rec .busy none))/\GOK C.G (V2.putObj l (.loop (rec st pe)))/\V.heap.size<=(V2.putObj l (.loop (rec st pe))).heap.size/\(∀ k,k<V.heap.size->¬S k->(V2.putObj l (.loop (rec st pe))).heap[k]? = V.heap[k]?) /\
    ∃ S':Nat->Prop,(∀ k,So k->S' k)/\(∀ D∈ms,S' D)/\S' l/\S' D0/\(∀ i,dom hp2 i->S' (r2 i))/\zqg S' (V2.putObj l (.loop (rec st pe))) (λV'=>Own0 C d So ms s.yc a r2 tsE hp2 V'/\Lv st pe V') /\
     (∀ k,S' k->k<(V2.putObj l (.loop (rec st pe))).heap.size)/\(∀ k,S' k->k<V.heap.size->S k):=λst pe r2 V1 V2 a1 a2 r1 ts1 ts2 hp1 hp2 y1 y2 D1 hD1 hD1l ri1 ri2=>by
   obtain ⟨_,q1,q2,q3,q4,q5,q6⟩:=zpn (L2:=rec st pe) hi0.flat hown hSol hSV kSo kms hrcS hl ri1 hD1 hD1l ri2
   have sz:(V2.putObj l (.loop (rec st pe))).heap.size=V2.heap.size:=zcr _ _ _
   have hnim:∀ k,¬S k->¬imO rc hq k:=λk hk ⟨i,hd,e⟩=>hk (e▸hrcS i hd)
   refine ⟨q1,q6,by rw [sz];exact q4,λk hk hnS=>q5 k hk (hnim k hnS) (λe=>hnS (e▸kl)),λk=>S k\/(V.heap.size<=k/\k<V2.heap.size),λk hk=>.inl (kSo k hk),λD hD=>.inl (kms D hD),.inl kl,.inl kD,λi hd=>?_,?_,λk hk=>?_,λk hk hlt=>?_⟩
   ·rcases q3 i hd with h|h
    ·exact .inr ⟨h,by
      unfold dom at hd
      cases hb:hp2 i with
      | none=>exact absurd hb hd
      | some b=>have:=(Array.getElem?_eq_some_iff.1 (q2.sat i b hb).1).1;rwa [sz] at this⟩
    ·exact .inl h
   ·have hD0:(V2.putObj l (.loop (rec st pe))).heap[D0]? = some (.deferred (some [])):=by
     rw [q5 D0 (hSV D0 kD) (λ⟨i,hd',e⟩=>by
      unfold dom at hd'
      cases hb:hq i with
      | none=>exact hd' hb
      | some b=>have:=(hown.sat i b hb).1;rw [e,hD] at this;exact (Blk.obj_def this).elim) (by omega)]
     exact hD
    have hlt2:l<V2.heap.size:=(Array.getElem?_eq_some_iff.1 q1).1
    refine λV' k1 k2 k3 k4 k5=>⟨q2.supp (S:=λk=>S k\/(V.heap.size<=k/\k<V2.heap.size)) (λk hk=>.inl (kSo k hk)) (λi hd=>?_) (λD hD=>.inl (kms D hD)) V' k1 k2 k3 k4 k5,(k1 l (.inl kl)).trans (World.putObj_heap_same hlt2),(k1 D0 (.inl kD)).trans hD0⟩
    rcases q3 i hd with h|h
    ·exact .inr ⟨h,by
      unfold dom at hd
      cases hb:hp2 i with
      | none=>exact absurd hb hd
      | some b=>have:=(Array.getElem?_eq_some_iff.1 (q2.sat i b hb).1).1;rwa [sz] at this⟩
    ·exact .inl h
   ·rw [sz]
    rcases hk with h|h
    ·exact Nat.lt_of_lt_of_le (hSV k h) q4
    ·exact h.2
   ·exact hk.resolve_right (by omega)
  have capN:∀ S':Nat->Prop,(∀ k,S' k->k<V.heap.size->S k)->∀ k,S' k->¬capd k:=λS' h12 k hk hc=>by
   by_cases hlt:k<V.heap.size
   ·exact kcap k (h12 k hk hlt) hc
   ·have h5:=capSmall k hc
    have h6:=hSV D0 kD
    exact hlt (by omega)
  by_cases hcn:c<N
  ·refine both _ (rounds c x hq hcn hx hI C1 l rfl rfl rfl) ?_
   intro e s2 r2 V1 V2 a1 a2 r1 ts1 hp1 y1 D1 hD1 hD1l hk ri1 gi2
   cases e with
   | normal =>
    obtain ⟨ρ,hq',hwr,hI'⟩:=hk
    obtain ⟨p1,p2,p3,p4,S',p5,p6,p7,p8,p9,p10,p11,p12⟩:=post .ready none r2 V1 V2 a1 a2 r1 ts1 _ hp1 _ y1 _ D1 hD1 hD1l ri1 gi2.ri
    have hend:=run_endRound (P:=P) none p1
    rw [hrec] at hend p2 p3 p4 p10 p11
    refine ⟨_,_,hend,?_,p2,p3,p4,S',⟨p5,p6,p7,p8,capN S' p12,.inl ⟨hcn,hq',hI',hwr.free,λk=>r2 (ρ k),λi hd=>p9 (ρ i) (hwr.subd (λk hk=>gi2.ri.glob k hk) i hd),?_⟩⟩,p11,p12⟩
    ·have h1:(YG.mk l xs N pn).pan c=none:=by
      show (if c=N then pn else none)=none
      rw [if_neg (by omega)]
     have h2:(c != N)=true:=by simp;omega
     rw [h1,h2];rfl
    ·intro V' k1 k2 k3 k4 k5
     have:=p10 V' k1 k2 k3 k4 k5
     exact ⟨this.1.rename hwr,by simpa [hrec] using this.2⟩
   | _=>exact hk.elim
  ·obtain rfl:c=N:=by omega
   have hpanN:(YG.mk l xs c pn).pan c=pn:=by
    show (if c=c then pn else none)=pn
    rw [if_pos rfl]
   cases pn with
   | none =>
    rcases fin with ⟨e,_⟩|⟨x',hx',hfin⟩
    ·obtain ⟨h9,_⟩:=List.getElem?_eq_some_iff.1 hx;have h9:c<xs.length:=h9;omega
    ·have hx:xs[c]? = some x:=hx
     rw [hx] at hx';cases hx'
     refine both _ (hfin hq hI C1 l rfl rfl rfl) ?_
     intro e s2 r2 V1 V2 a1 a2 r1 ts1 hp1 y1 D1 hD1 hD1l hk ri1 gi2
     obtain ⟨hk1,hk2,hk3⟩:=hk
     cases ho:zb7 e with
     | none=>rw [ho] at hk1;cases hk1
     | some j =>
      obtain ⟨p1,p2,p3,p4,S',p5,p6,p7,p8,p9,p10,p11,p12⟩:=post .done (some j) r2 V1 V2 a1 a2 r1 ts1 _ hp1 _ y1 _ D1 hD1 hD1l ri1 gi2.ri
      have hend:=run_endRound (P:=P) (some j) p1
      rw [hrec] at hend p2 p3 p4 p10 p11
      have hR:∃ v w',(Instr.endRound l (some j)).run P V2=.ok v w'/\RR (.returned v) w':=by
       refine ⟨_,_,hend,?_,p2,p3,p4,S',⟨p5,p6,p7,p8,capN S' p12,.inr ⟨rfl,e,s2.hp,s2.B,r2,.inl ⟨rfl,hk1⟩,hk3,gi2.free,gi2.low,p9,?_⟩⟩,p11,p12⟩
       ·rw [hpanN];simp
       ·intro V' k1 k2 k3 k4 k5
        obtain ⟨q1,q2⟩:=p10 V' k1 k2 k3 k4 k5
        refine ⟨q1,q2.2,λj' hj'=>?_⟩
        rw [ho] at hj';cases hj'
        simpa [hrec] using q2
      cases e<;>simp only [zb7,Option.some.injEq,reduceCtorEq] at ho
      ·subst ho;exact hR
      ·subst ho;exact hR
      ·subst ho;exact hR
   | some pv=>cases hpn
 -- behind the iterator
 refine ⟨l,[z3x D0],W1,{ target:=.fn (.func f) (caps.map (ren r)),args:=#[.func (.yield l) #[] #[]] },W1,f,#[Value.func (.yield l) #[] #[]]++caps.map (ren r),W1,?_,?_,λf' hf'=>?_,?_,λh=>(by cases h),?_⟩
 ·rw [<-hW1,hrec];exact run_enterLoop_outer _ _ _ _ _
 ·simp only [resolve,hcapv]
  simp [go_sem,Act.eval]
 ·simp [Target.leads] at hf'
  subst hf'
  exact zhm (hit.enter #[] default)
 ·simp [invoke,go_sem,hit.enter]
 ·have hsat1:Sat r (dom (rst s.hp rs)) (rst s.hp rs) W1:=λk b hk=>⟨(hb1.block _ (hi0.ri.lt (k:=k) (by unfold dom;rw [zer hk];simp))).trans (hi0.ri.sat k b (zer hk)).1,hit.closed k b hk⟩
  have hsubr:∀ k,dom (rst s.hp rs) k->dom s.hp k:=λk hk=>by
   unfold dom at *
   cases hb:rst s.hp rs k with
   | none=>exact absurd hb hk
   | some b=>rw [zer hb];simp
  subst hpn
  have hcalls:=hit.run E l N r S1 W1 (gokOf own0.sat own0.glob own0.low) hsat1 (λk l' hk hl=>hi0.ri.inj k l' (hsubr k hk) (hsubr l' hl)) (λk hk hd=>hi0.ri.low k hk (hsubr k hd)) hround X0 (λk hk=>hk.1) (λi hd h1 hS=>hS.2 ?_)
  ·refine CallsIn.mono (hcalls:CallsIn (Fw P none) 0 P _ _ _ _) ?_
   -- the owner's activation,behind it all
   have giV:∀ (rc:Nat->Nat) (hpE:Hp) (BE:Nat) (V:World),(∀ x,BE<=x->hpE x=none)->100<=BE->Own0 C d So ms s.yc a rc tsE hpE V->V.heap[D0]? = some (.deferred (some []))->W.heap.size<=V.heap.size ->
     GI P C n d rc ⟨tsE,hpE,BE,s.yc⟩ { a with defers:=[z3x D0]++a.defers } V:=λrc hpE BE V hfree hBE hown hD hsz =>
    ⟨⟨hi0.ri.size,hown.ri,hown.sat,hown.inj,
     ⟨So,D0::ms,hown.X,λk hk=>Nat.lt_of_lt_of_le (hSo k hk) hsz,hown.sep,⟨by simp [hdef],List.nodup_cons.2 ⟨λhm=>by have:=(Array.getElem?_eq_some_iff.1 (hms D0 hm).1).1;omega,hnd⟩⟩,λD hDm=>by
      rcases List.mem_cons.1 hDm with rfl|hDm
      ·exact ⟨hD,(λhS=>by have:=hSo _ hS;omega),hYn⟩
      ·exact ⟨hown.mks D hDm,(hms D hDm).2⟩⟩,
     hown.keep,hown.glob,hown.low⟩,hfree,hBE,hi0.flat,hi0.rounds⟩
   have szOf:∀ {S:Nat->Prop} {V:World} {c:Nat},XX c S V->(∀ V,XX c S V->S l->True)->V.heap[D0]? = some (.deferred (some []))->W.heap.size<=V.heap.size:=λ{S V c} _ _ h=>by
    have:=(Array.getElem?_eq_some_iff.1 h).1;omega
   rintro e V ⟨⟨v,rfl⟩,⟨S',hX⟩,hkeepB⟩
   obtain ⟨kSo,kms,kl,kD,kcap,hcase⟩:=hX
   have keepF:∀ ob k,dom (rst s.hp rs) k->(V.putObj l ob).heap[r k]? = W.heap[r k]?:=λob k hk=>by
    have hlt:=hi0.ri.lt (hsubr k hk)
    rw [World.putObj_heap_other (λe=>by have e':W.heap.size+1=r k:=e.symm;omega),hkeepB k hk]
    exact hb1.block _ hlt
   have noCap:∀ (rc:Nat->Nat) (hpE:Hp),(∀ i,dom hpE i->S' (rc i))->∀ i,dom hpE i->∀ k∈rs,100<=k->rc i≠r k:=λrc hpE hrcS i hd k hk h1 e=>kcap (rc i) (hrcS i hd) ⟨k,hk,h1,e.symm⟩
   have fini:∀ (st:LoopState) (pe:Option Code) (rc:Nat->Nat) (hpE:Hp) (BE:Nat),st≠.busy->(∀ x,BE<=x->hpE x=none)->100<=BE->Own0 C d So ms s.yc a rc tsE hpE V->Lv st pe V ->
     (Instr.endLoop l).run P V=.ok pe (V.putObj l (.loop { rec st pe with state:=.exhausted }))/\GI P C n d rc ⟨tsE,hpE,BE,s.yc⟩ { a with defers:=[z3x D0]++a.defers } (V.putObj l (.loop { rec st pe with state:=.exhausted })):=λst pe rc hpE BE hst hfree hBE hown ⟨hl,hD⟩=>by
    have hend:=run_endLoop (P:=P) hl (by rw [hrec];exact hst)
    refine ⟨by rw [hrec] at hend |-;exact hend,?_⟩
    have hlt:l<V.heap.size:=(Array.getElem?_eq_some_iff.1 hl).1
    have szV:∀ ob,(V.putObj l ob).heap.size=V.heap.size:=λob=>zcr _ _ _
    refine ⟨⟨hi0.ri.size,hown.ri,λk b hk=>⟨(World.putObj_heap_other (λe=>?_)).trans (hown.sat k b hk).1,(hown.sat k b hk).2⟩,hown.inj,
     ⟨So,D0::ms,C.E.ok _ _ _ _ hown.X (λk hk=>World.putObj_heap_other (λe=>by have:=hSo k hk;omega)) rfl rfl rfl (by rw [szV];exact Nat.le_refl _),λk hk=>by rw [szV];have:=hSo k hk;omega,hown.sep,⟨by simp [hdef],List.nodup_cons.2 ⟨λhm=>?_,hnd⟩⟩,λD hDm=>?_⟩,
     hown.keep,hown.glob,hown.low⟩,hfree,hBE,hi0.flat,hi0.rounds⟩
    ·have:=(hown.sat k b hk).1;rw [e,hl] at this;exact (Blk.obj_loop this).elim
    ·have:=(Array.getElem?_eq_some_iff.1 (hms D0 hm).1).1;omega
    ·rcases List.mem_cons.1 hDm with rfl|hDm
     ·exact ⟨(World.putObj_heap_other (by omega)).trans hD,(λhS=>by have:=hSo _ hS;omega),hYn⟩
     ·exact ⟨(World.putObj_heap_other (λe=>by have:=hown.mks D hDm;rw [e,hl] at this;cases this)).trans (hown.mks D hDm),(hms D hDm).2⟩
   rcases hcase with ⟨hc',hq,hI,hfree,rc,hrcS,hsupp⟩|⟨hc',e,hpE,BE,rc,ho,hk,hfree,hBE,hrcS,hsupp⟩
   ·obtain ⟨hown,hLv⟩:=hsupp.here
    have hNl:N=xs.length:=by omega
    have hmin:min (N+1) xs.length=N:=by omega
    rw [hmin] at hI
    obtain ⟨f1,f2⟩:=fini .ready none rc hq B (by simp) hfree hw.low hown hLv
    rcases fin with ⟨_,hK⟩|⟨x',hx',_⟩
    ·exact ⟨none,_,f1,_,rc,⟨hK hq hI,f2⟩,rfl,keepF _,noCap rc hq hrcS⟩
    ·obtain ⟨h9,_⟩:=List.getElem?_eq_some_iff.1 hx';omega
   ·obtain ⟨hown,_,hLv⟩:=hsupp.here
    rcases ho with ⟨_,ho⟩|⟨pv,h1,_⟩
    ·cases hoj:zb7 e with
     | none=>rw [hoj] at ho;cases ho
     | some j =>
      obtain ⟨f1,f2⟩:=fini .done (some j) rc hpE BE (by simp) hfree hBE hown (hLv j hoj)
      refine ⟨some j,_,f1,?_⟩
      cases e<;>simp only [zb7,Option.some.injEq,reduceCtorEq] at hoj
      ·subst hoj;exact wpIn_exit ⟨_,rc,⟨hk,f2⟩,rfl,keepF _,noCap rc hpE hrcS⟩
      ·subst hoj;exact wpIn_goto ⟨_,rc,⟨hk,f2⟩,rfl,keepF _,noCap rc hpE hrcS⟩
      ·subst hoj;exact wpIn_ret ⟨_,rc,⟨hk,f2⟩,rfl,keepF _,noCap rc hpE hrcS⟩
    ·cases h1
  ·refine ⟨i,?_,h1,rfl⟩
   unfold dom rst at hd
   split at hd
   ·rename_i h;exact h.resolve_left (by omega)
   ·exact absurd rfl hd
theorem IterK.under {f:FuncId} {caps:Array Value} {hp hp':Hp} {rs:List Nat} {xs:List (Array Value)} (h:IterK P G f caps hp rs xs) (e:rst hp' rs=rst hp rs):IterK P G f caps hp' rs xs :=
 ⟨h.enter,by rw [e];exact h.cids,by rw [e];exact h.closed,by rw [e];exact h.run⟩
def zb9 (asd:List Nat) (hp0 hp:Hp):Hp:=λk=>if k∈asd then hp0 k else hp k
theorem WeakR.ctx {C':Ctx} {ρ:Nat->Nat} {s s':GS} (h:C.hp0=C'.hp0) (hG:C.G=C'.G) (hw:WeakR C ρ s s'):WeakR C' ρ s s':=⟨hw.ts,hw.hp,hw.ids,hw.inj,hw.id,by rw [<-hG];exact hw.rest,by rw [<-h];exact hw.keep,by rw [<-hG];exact hw.glob,hw.yc,hw.free,hw.low⟩
theorem zir {t:Tmp} {ps:Array Tmp} {assign body:Code} {f:FuncId} {caps:Array Value} {rs:List Nat} {xs:List (Array Value)} (asd:List Nat) (hY:C.Y=none) (hg:s.ts t=.func (.func f) #[] caps) (hit:IterK P C.G f caps s.hp rs xs)
  (hxs:∀ x∈xs,x.size=ps.size/\∀ v∈x,za0 v=true) (hps:∀ p∈ps,p<n) (tsE tsF:Nat->Value) (I:Nat->Hp->Prop) {hpS:Hp} (B:Nat) (N:Nat) (hN:N<=xs.length)
  (hras:∀ k∈rs,k∈asd) (has:∀ k∈asd,100<=k/\dom s.hp k) (hcl:∀ k∈asd,∀ b,s.hp k=some b->b.ids λq=>q∈asd\/(q<100/\dom C.G q))
  (hw:∀ C0:Ctx,C0.G=C.G->(C0.hp0=λk=>if k∈asd then none else C.hp0 k)->Weak C0 s ⟨tsE,hpS,B,s.yc⟩) (h0:I 0 hpS) (hnS:∀ k∈asd,hpS k=none)
  (hF:∀ u,tsF u=tsE u\/(tsF u=s.ts u/\zap (λq=>q∈asd) (s.ts u)))
  (rounds:∀ i x hq,i<N->xs[i]? = some x->I i hq->∀ (C1:Ctx) (l:Nat),C1.G=C.G->C1.hp0=hq->C1.Y=none->GW P C1 n [] (some l) assign ⟨za3 ps.toList x.toList tsE,hq,B,0⟩
   (zcy (λs1=>∀ C2:Ctx,C2.G=C.G->C2.hp0=hq->C2.Y=none->GW P C2 n [] (some l) body s1 (zcy (λs2=>∃ ρ hq',(∀ C0:Ctx,C0.G=C.G->(C0.hp0=λk=>if k∈asd then none else C.hp0 k)->WeakR C0 ρ ⟨tsE,s2.hp,s2.B,s.yc⟩ ⟨tsE,hq',B,s.yc⟩)/\I (i+1) hq') (λ_ _=>False))) (λ_ _=>False)))
  (fin:(N=xs.length/\∀ hq,I N hq->(∀ k∈asd,hq k=none/\k<B)/\K .normal ⟨tsF,zb9 asd s.hp hq,B,s.yc⟩)\/∃ x,xs[N]? = some x/\∀ hq,I N hq->∀ (C1:Ctx) (l:Nat),C1.G=C.G->C1.hp0=hq->C1.Y=none->GW P C1 n [] (some l) assign ⟨za3 ps.toList x.toList tsE,hq,B,0⟩
    (zcy (λs1=>∀ C2:Ctx,C2.G=C.G->C2.hp0=hq->C2.Y=none->GW P C2 n [] (some l) body s1 (λe s2=>(zb7 e).isSome=true/\(∀ t,zap (dom s2.hp) (tsE t))/\(∀ k∈asd,s2.hp k=none/\k<s2.B)/\K e ⟨tsF,zb9 asd s.hp s2.hp,s2.B,s.yc⟩)) (λ_ _=>False))) :
  GW P C n d none (.rangeFunc (.tmp t) ps assign body) s K:=by
 intro r a W hi
 obtain ⟨So,ms,hX0,hSo,hsep,hdef,hms⟩:=hi.ri.ext
 have hA100:∀ k,k<100->k∉asd:=λk hk hm=>by have:=(has k hm).1;omega
 let A:Nat->Prop:=λj=>∃ i,i∈asd/\i∉rs/\r i=j
 let E':Ext:=⟨λc S V=>C.E.X c So V/\(∀ k,So k->S k)/\∀ j,A j->S j/\V.heap[j]? = W.heap[j]?,
  λc S V V' h hs os tape output size=>⟨C.E.ok _ _ _ _ h.1 (λk hk=>hs k (h.2.1 k hk)) os tape output size,h.2.1,λj hj=>⟨(h.2.2 j hj).1,(hs j (h.2.2 j hj).1).trans (h.2.2 j hj).2⟩⟩⟩
 let C':Ctx:={ C with E:=E',hp0:=λk=>if k∈asd then none else C.hp0 k }
 have hw':=hw C' rfl rfl
 let hpR:Hp:=λk=>if k∈rs then s.hp k else hpS k
 let s':GS:=⟨λu=>if u=t then s.ts t else tsE u,hpR,s.B,s.yc⟩
 have subS:∀ k b,hpS k=some b->s.hp k=some b:=λk b hb=>by
  by_cases h1:100<=k
  ·rcases hw'.hp k h1 with h|h
   ·have h:hpS k=none:=h
    rw [h] at hb;cases hb
   ·have h:hpS k=s.hp k:=h
    rw [<-h];exact hb
  ·have h2:hpS k=C.G k:=hw'.glob k (by omega)
   rw [hi.ri.glob k (by omega),<-h2];exact hb
 have subR:∀ k b,hpR k=some b->s.hp k=some b:=λk b hb=>by
  by_cases h1:k∈rs
  ·have:hpR k=s.hp k:=by simp [hpR,h1]
   rw [<-this];exact hb
  ·have:hpR k=hpS k:=by simp [hpR,h1]
   exact subS k b (this▸hb)
 have domR:∀ k,dom hpR k->dom s.hp k:=λk hk=>by
  unfold dom at hk |-
  cases hb:hpR k with
  | none=>exact absurd hb hk
  | some b=>rw [subR k b hb];simp
 have domSR:∀ k,dom hpS k->dom hpR k:=λk hk=>by
  unfold dom at *
  by_cases h1:k∈rs
  ·exact absurd (hnS k (hras k h1)) hk
  ·simpa [hpR,h1] using hk
 have erst:rst hpR rs=rst s.hp rs:=funext λk=>by
  unfold rst
  by_cases h1:k∈rs
  ·simp [hpR,h1]
  ·by_cases h2:k<100
   ·have e1:hpS k=C.G k:=hw'.glob k h2
    simp [hpR,h1,h2,e1,hi.ri.glob k h2]
   ·simp [h1,h2]
 have domrst:∀ k,dom (rst s.hp rs) k->dom hpR k:=λk hk=>by
  rw [<-erst] at hk
  unfold dom at *
  cases hb:rst hpR rs k with
  | none=>exact absurd hb hk
  | some b=>rw [zer hb];simp
 have hit':IterK P C'.G f caps s'.hp rs xs:=hit.under erst
 have hi':GI P C' n d r s' a W:=by
  refine ⟨⟨hi.ri.size,λu=>?_,λk b hk=>⟨(hi.ri.sat k b (subR k b hk)).1,?_⟩,λk l hk hl e=>hi.ri.inj k l (domR k hk) (domR l hl) e,⟨λk=>So k\/A k,ms,⟨hX0,λk hk=>.inl hk,λj hj=>⟨.inr hj,rfl⟩⟩,λk hk=>?_,λi hd h1 hS=>?_,hdef,λD hD=>⟨(hms D hD).1,λhS=>?_,(hms D hD).2.2⟩⟩,λi hd=>?_,λk hk=>?_,λk hk hd=>hi.ri.low k hk (domR k hd)⟩,λx hx=>?_,hi.low,hi.flat,λy hy=>by have hy:C.Y=some y:=hy;rw [hY] at hy;cases hy⟩
  ·by_cases hu:u=t
   ·subst hu
    right
    have e:=(hi.ri.rel u).resolve_left (by rw [hg];simp [zbz])
    refine ⟨by simpa [s'] using e.1,?_⟩
    have e2:s'.ts u=.func (.func f) #[] caps:=by simp [s',hg]
    rw [e2]
    refine ⟨by simp,λx hx=>?_⟩
    have:=hit.cids x hx
    exact zgp domrst ((zcb this.1).1 this.2)
   ·have e2:s'.ts u=tsE u:=by simp [s',hu]
    rw [e2]
    rcases hw'.ts u with h|⟨h,hid⟩
    ·exact .inl h
    ·have h:tsE u=s.ts u:=h
     rcases hi.ri.rel u with h3|h3
     ·exact .inl (h.trans h3)
     ·exact .inr ⟨by rw [h];exact h3.1,zcd domSR hid⟩
  ·by_cases h1:k∈rs
   ·have hk2:rst s.hp rs k=some b:=by
     have:s.hp k=some b:=subR k b hk
     simp [rst,h1,this]
    exact Blk.ids_mono domrst (hit.closed k b hk2)
   ·have hk2:hpS k=some b:=by
     have:hpR k=hpS k:=by simp [hpR,h1]
     exact this▸hk
    exact Blk.ids_mono domSR (hw'.ids k b hk2)
  ·rcases hk with hk|⟨i,hi1,_,rfl⟩
   ·exact hSo k hk
   ·exact hi.ri.lt (has i hi1).2
  ·rcases hS with hS|⟨i',hi1,hi2,e⟩
   ·exact hsep i (domR i hd) h1 hS
   ·have:i'=i:=hi.ri.inj i' i (has i' hi1).2 (domR i hd) e
    subst this
    have hd':hpR i'≠none:=hd
    have:hpR i'=hpS i':=by simp [hpR,hi2]
    exact hd' (this.trans (hnS i' hi1))
  ·rcases hS with hS|⟨i,hi1,_,e⟩
   ·exact (hms D hD).2.1 hS
   ·exact hi.ri.ne_mark (has i hi1).2 (hms D hD).1 e
  ·have hna:i∉asd:=λhm=>by
    have:(if i∈asd then none else C.hp0 i)≠none:=hd
    simp [hm] at this
   have hd0:dom C.hp0 i:=by
    have:(if i∈asd then none else C.hp0 i)≠none:=hd
    rw [if_neg hna] at this
    exact this
   refine ⟨?_,(hi.ri.keep i hd0).2⟩
   by_cases h1:100<=i
   ·have hk:=hw'.keep i h1 hd
    refine domSR i ?_
    have h2:=(hi.ri.keep i hd0).1
    unfold dom at *
    have hk:hpS i=s.hp i:=hk
    rw [hk];exact h2
   ·have h2:=(hi.ri.keep i hd0).1
    refine domSR i ?_
    have e1:hpS i=C.G i:=hw'.glob i (by omega)
    unfold dom at *
    rw [e1,<-hi.ri.glob i (by omega)];exact h2
  ·have h1:k∉rs:=λhm=>hA100 k hk (hras k hm)
   have:hpR k=hpS k:=by simp [hpR,h1]
   show hpR k=C.G k
   rw [this];exact hw'.glob k hk
  ·cases hb:hpR x with
   | none=>exact hb
   | some b =>
    have h1:s.hp x=none:=hi.free x hx
    rw [subR x b hb] at h1;cases h1
 have hw2:Weak C' s' ⟨tsE,hpS,B,s'.yc⟩:=by
  refine ⟨λu=>?_,λk hk=>?_,hw'.ids,λk h1 hd=>?_,hw'.glob,rfl,hw'.free,hw'.low⟩
  ·rcases hw'.ts u with h|⟨h,hid⟩
   ·exact .inl h
   ·refine .inr ⟨?_,hid⟩
    by_cases hu:u=t
    ·subst hu;simpa [s'] using h
    ·simp [s',hu]
  ·by_cases h1:k∈rs
   ·exact .inl (hnS k (hras k h1))
   ·exact .inr (by simp [s',hpR,h1])
  ·have hna:k∉asd:=λhm=>by
    have:(if k∈asd then none else C.hp0 k)≠none:=hd
    simp [hm] at this
   have h2:k∉rs:=λhm=>hna (hras k hm)
   show hpS k=hpR k
   simp [hpR,h2]
 have main:=zz9 (P:=P) (C:=C') (n:=n) (d:=d) (s:=s') (K:=λe s2=>(∀ k∈asd,s2.hp k=none/\k<s2.B)/\(∀ u,s2.ts u=tsE u)/\s2.yc=s.yc/\K e ⟨tsF,zb9 asd s.hp s2.hp,s2.B,s.yc⟩) (t:=t) (ps:=ps) (assign:=assign) (body:=body) (f:=f) (caps:=caps) (rs:=rs) (xs:=xs) (by simp [s',hg]) hit' hxs hps tsE I B N hN hw2 h0
  (λk hk=>⟨hnS k (hras k hk),by have:=(has k (hras k hk)).2;unfold dom at *;simpa [s',hpR,hk] using this⟩)
  (λi x hq h1 h2 h3 C1 l h4 h5 h6=>zdu (rounds i x hq h1 h2 h3 C1 l h4 h5 h6) λe s1 hs=>by
   cases e with
   | normal =>
    intro C2 q1 q2 q3
    refine zdu (hs C2 q1 q2 q3) λe s2 hs2=>?_
    cases e with
    | normal =>
     obtain ⟨ρ,hq',hr1,hr2⟩:=hs2
     exact ⟨ρ,hq',hr1 C' rfl rfl,hr2⟩
    | _=>exact hs2.elim
   | _=>exact hs.elim)
  (fin.imp (λ⟨h1,h2⟩=>⟨h1,λhq hI=>⟨(h2 hq hI).1,λ_=>rfl,rfl,(h2 hq hI).2⟩⟩) (λ⟨x,h1,h2⟩=>⟨x,h1,λhq hI C1 l q1 q2 q3=>zdu (h2 hq hI C1 l q1 q2 q3) λe s1 hs=>by
   cases e with
   | normal =>
    intro C2 p1 p2 p3
    exact zdu (hs C2 p1 p2 p3) λe s2 hs2=>⟨hs2.1,hs2.2.1,hs2.2.2.1,λ_=>rfl,rfl,hs2.2.2.2⟩
   | _=>exact hs.elim⟩))
  (by show C.Y≠some .still;rw [hY];simp) hi'
 refine wpIn_mono main ?_
 rintro e a' W' ⟨s2,r2,⟨⟨hna,hts2,hyc,hK⟩,gi⟩,htm,hkB,hnc⟩
 obtain ⟨S2,m2,⟨hX2,hSo2,hA2⟩,hS2,hsep2,hdef2,hms2⟩:=gi.ri.ext
 let r3:Nat->Nat:=λk=>if k∈asd then r k else r2 k
 have r3as:∀ k,k∈asd->r3 k=r k:=λk hk=>by simp [r3,hk]
 have r3no:∀ k,dom s2.hp k->r3 k=r2 k:=λk hk=>by
  have:k∉asd:=λhm=>hk (hna k hm).1
  simp [r3,this]
 have domF1:∀ k,k∈asd->dom (zb9 asd s.hp s2.hp) k:=λk hk=>by
  have:=(has k hk).2
  unfold dom zb9 at *;simpa [hk] using this
 have domF2:∀ k,dom s2.hp k->dom (zb9 asd s.hp s2.hp) k:=λk hk=>by
  have h1:k∉asd:=λhm=>hk (hna k hm).1
  unfold dom zb9 at *;simpa [h1] using hk
 have hpF1:∀ k b,zb9 asd s.hp s2.hp k=some b->(k∈asd/\s.hp k=some b)\/(k∉asd/\s2.hp k=some b):=λk b hb=>by
  unfold zb9 at hb
  by_cases h1:k∈asd
  ·simp only [h1,if_true] at hb;exact .inl ⟨h1,hb⟩
  ·simp only [h1,if_false] at hb;exact .inr ⟨h1,hb⟩
 have domF:∀ k,dom (zb9 asd s.hp s2.hp) k->k∈asd\/(k∉asd/\dom s2.hp k):=λk hk=>by
  unfold dom at hk
  cases hb:zb9 asd s.hp s2.hp k with
  | none=>exact absurd hb hk
  | some b=>exact (hpF1 k b hb).imp (λh=>h.1) (λh=>⟨h.1,by unfold dom;rw [h.2];simp⟩)
 refine ⟨⟨tsF,zb9 asd s.hp s2.hp,s2.B,s.yc⟩,r3,hK,⟨⟨gi.ri.size,λu=>?_,λk b hk=>?_,λk l hk hl e=>?_,⟨So,m2,?_,λk hk=>hS2 k (hSo2 k hk),λi hd h1 hS=>?_,hdef2,λD hD=>⟨(hms2 D hD).1,λhS=>(hms2 D hD).2.1 (hSo2 D hS),(hms2 D hD).2.2⟩⟩,λi hd=>?_,λk hk=>?_,λk hk hd=>?_⟩,λx hx=>?_,gi.low,hi.flat,hi.rounds⟩⟩
 ·rcases hF u with h|⟨h,hid⟩
  ·rcases gi.ri.rel u with h3|h3
   ·exact .inl (h.trans ((hts2 u).symm.trans h3))
   ·rw [hts2 u] at h3
    exact .inr ⟨by
     have e1:a'.tmps.getD u undef=ren r3 (tsF u):=by rw [h,zc6 r3no h3.2];exact h3.1
     exact e1,by
     have e2:zap (dom (zb9 asd s.hp s2.hp)) (tsF u):=by rw [h];exact zcd domF2 h3.2
     exact e2⟩
  ·rcases hi.ri.rel u with h3|h3
   ·exact .inl (h.trans h3)
   ·exact .inr ⟨by
     have e1:a'.tmps.getD u undef=ren r3 (tsF u):=by rw [h,htm,zc6 r3as hid];exact h3.1
     exact e1,by
     have e2:zap (dom (zb9 asd s.hp s2.hp)) (tsF u):=by rw [h];exact zcd domF1 hid
     exact e2⟩
 ·rcases hpF1 k b hk with ⟨h1,h2⟩|⟨h1,h2⟩
  ·have hid:=hcl k h1 b h2
   have dQ:∀ q,q<100->dom C.G q->dom s2.hp q/\dom s.hp q:=λq h5 h6=>by
    have e1:s2.hp q=C.G q:=gi.ri.glob q h5
    have e2:s.hp q=C.G q:=hi.ri.glob q h5
    unfold dom at *
    rw [e1,e2]
    exact ⟨h6,h6⟩
   have r3Q:∀ q,(q∈asd\/(q<100/\dom C.G q))->r3 q=r q:=λq hq=>hq.elim (r3as q) λ⟨h5,h6⟩=>by
    obtain ⟨d2,d1⟩:=dQ q h5 h6
    rw [r3no q d2,gi.ri.low q h5 d2,hi.ri.low q h5 d1]
   refine ⟨?_,Blk.ids_mono (λq hq=>hq.elim (domF1 q) λ⟨h5,h6⟩=>domF2 q (dQ q h5 h6).1) hid⟩
   rw [r3as k h1,Blk.obj_congr r3Q hid,<-(hi.ri.sat k b h2).1]
   by_cases h3:k∈rs
   ·refine hkB k ?_
    show dom (rst hpR rs) k
    rw [erst]
    unfold dom rst;simp [h3,h2]
   ·exact (hA2 (r k) ⟨k,h1,h3,rfl⟩).2
  ·have hd:dom s2.hp k:=by unfold dom;rw [h2];simp
   have h3:=gi.ri.sat k b h2
   refine ⟨?_,Blk.ids_mono domF2 h3.2⟩
   rw [r3no k hd,Blk.obj_congr r3no h3.2]
   exact h3.1
 ·have mixed:∀ k l,k∈asd->l∉asd->dom s2.hp l->r k=r2 l->False:=λk l hk hl hd e=>by
   by_cases h3:k∈rs
   ·exact hnc l hd k h3 (has k hk).1 e.symm
   ·by_cases h1:100<=l
    ·exact hsep2 l hd h1 (e▸(hA2 (r k) ⟨k,hk,h3,rfl⟩).1)
    ·have e1:s2.hp l=C.G l:=gi.ri.glob l (by omega)
     have e2:s.hp l=C.G l:=hi.ri.glob l (by omega)
     have hd2:dom s.hp l:=by unfold dom at *;rw [e2,<-e1];exact hd
     have e3:r2 l=l:=gi.ri.low l (by omega) hd
     have e4:r l=l:=hi.ri.low l (by omega) hd2
     have:k=l:=hi.ri.inj k l (has k hk).2 hd2 (by rw [e,e3,e4])
     exact hl (this▸hk)
  rcases domF k hk with h1|⟨h1,hd1⟩<;>rcases domF l hl with h2|⟨h2,hd2⟩
  ·rw [r3as k h1,r3as l h2] at e
   exact hi.ri.inj k l (has k h1).2 (has l h2).2 e
  ·rw [r3as k h1,r3no l hd2] at e
   exact (mixed k l h1 h2 hd2 e).elim
  ·rw [r3no k hd1,r3as l h2] at e
   exact (mixed l k h2 h1 hd1 e.symm).elim
  ·rw [r3no k hd1,r3no l hd2] at e
   exact gi.ri.inj k l hd1 hd2 e
 ·have:E'.X s2.yc S2 W':=⟨hX2,hSo2,hA2⟩
  show C.E.X s.yc So W'
  rw [<-hyc];exact hX2
 ·rcases domF i hd with h2|⟨h2,hd2⟩
  ·rw [r3as i h2] at hS;exact hsep i (has i h2).2 h1 hS
  ·rw [r3no i hd2] at hS;exact hsep2 i hd2 h1 (hSo2 _ hS)
 ·by_cases h1:i∈asd
  ·exact ⟨domF1 i h1,(r3as i h1).trans (hi.ri.keep i hd).2⟩
  ·have hd':dom C'.hp0 i:=by
    show (if i∈asd then none else C.hp0 i)≠none
    rw [if_neg h1];exact hd
   have hk:dom s2.hp i/\r2 i=C.r0 i:=gi.ri.keep i hd'
   exact ⟨domF2 i hk.1,(r3no i hk.1).trans hk.2⟩
 ·have h1:=hA100 k hk
  show zb9 asd s.hp s2.hp k=C.G k
  unfold zb9;rw [if_neg h1];exact gi.ri.glob k hk
 ·have h1:=hA100 k hk
  rcases domF k hd with h2|⟨_,hd2⟩
  ·exact absurd h2 h1
  ·rw [r3no k hd2];exact gi.ri.low k hk hd2
 ·have hx:s2.B<=x:=hx
  have h1:x∉asd:=λhm=>by have:=(hna x hm).2;omega
  show zb9 asd s.hp s2.hp x=none
  unfold zb9;rw [if_neg h1];exact gi.free x hx
theorem zwr {t:Tmp} {ps:Array Tmp} {assign body:Code} {f:FuncId} {caps:Array Value} {rs:List Nat} {xs:List (Array Value)} (asd:List Nat) (hY:C.Y=none) (hg:s.ts t=.func (.func f) #[] caps) (hit:IterK P C.G f caps s.hp rs xs)
  (hxs:∀ x∈xs,x.size=ps.size/\∀ v∈x,za0 v=true) (hps:∀ p∈ps,p<n) (tsE tsF:Nat->Value) (I:Nat->Hp->Prop) {hpS:Hp} (B:Nat) (N:Nat) (hN:N<=xs.length)
  (hras:∀ k∈rs,k∈asd) (has:∀ k∈asd,100<=k/\dom s.hp k) (hcl:∀ k∈asd,∀ b,s.hp k=some b->b.ids λq=>q∈asd)
  (hw:∀ C0:Ctx,C0.G=C.G->(C0.hp0=λk=>if k∈asd then none else C.hp0 k)->Weak C0 s ⟨tsE,hpS,B,s.yc⟩) (h0:I 0 hpS) (hnS:∀ k∈asd,hpS k=none)
  (hF:∀ u,tsF u=tsE u\/(tsF u=s.ts u/\zap (λq=>q∈asd) (s.ts u)))
  (rounds:∀ i x hq,i<N->xs[i]? = some x->I i hq->∀ (C1:Ctx) (l:Nat),C1.G=C.G->C1.hp0=hq->C1.Y=none->GW P C1 n [] (some l) assign ⟨za3 ps.toList x.toList tsE,hq,B,0⟩
   (zcy (λs1=>∀ C2:Ctx,C2.G=C.G->C2.hp0=hq->C2.Y=none->GW P C2 n [] (some l) body s1 (zcy (λs2=>∃ ρ hq',(∀ C0:Ctx,C0.G=C.G->(C0.hp0=λk=>if k∈asd then none else C.hp0 k)->WeakR C0 ρ ⟨tsE,s2.hp,s2.B,s.yc⟩ ⟨tsE,hq',B,s.yc⟩)/\I (i+1) hq') (λ_ _=>False))) (λ_ _=>False)))
  (fin:(N=xs.length/\∀ hq,I N hq->(∀ k∈asd,hq k=none/\k<B)/\K .normal ⟨tsF,zb9 asd s.hp hq,B,s.yc⟩)\/∃ x,xs[N]? = some x/\∀ hq,I N hq->∀ (C1:Ctx) (l:Nat),C1.G=C.G->C1.hp0=hq->C1.Y=none->GW P C1 n [] (some l) assign ⟨za3 ps.toList x.toList tsE,hq,B,0⟩
    (zcy (λs1=>∀ C2:Ctx,C2.G=C.G->C2.hp0=hq->C2.Y=none->GW P C2 n [] (some l) body s1 (λe s2=>(zb7 e).isSome=true/\(∀ t,zap (dom s2.hp) (tsE t))/\(∀ k∈asd,s2.hp k=none/\k<s2.B)/\K e ⟨tsF,zb9 asd s.hp s2.hp,s2.B,s.yc⟩)) (λ_ _=>False))) :
  GW P C n d none (.rangeFunc (.tmp t) ps assign body) s K:=by
 refine zir (f:=f) (rs:=rs) (xs:=xs) (caps:=caps) asd hY hg hit hxs hps tsE tsF I B N hN hras has (λk hk b hb=>Blk.ids_mono (λq hq=>.inl hq) (hcl k hk b hb)) hw h0 hnS hF rounds fin
section
variable {P:Program} {G:Hp}
theorem IterK.rn {f:FuncId} {caps:Array Value} {hp hp':Hp} {rs:List Nat} {xs:List (Array Value)} (ρ:Nat->Nat) (hGF:zbm G) (hG:∀ k,k<100->hp k=G k) (h:Rn ρ hp hp' rs) (hi:IterK P G f caps hp rs xs):IterK P G f (caps.map (zao ρ)) hp' (rs.map ρ) xs:=by
 have hpl:∀ x,zbs x=true->zbs (zao ρ x)=true:=λx hx=>by
  cases x with
  | pointer p=>cases p<;>rfl
  | slice p _ _=>cases p<;>rfl
  | map p=>cases p<;>rfl
  | _=>exact hx
 have bflat:∀ k b,k<100->hp k=some b->b.rn ρ=b:=λk b hk hb=>by
  have hg:G k=some b:=(hG k hk).symm.trans hb
  exact Blk.rn_flat (hGF k b hg).2
 have back:∀ k b,rst hp' (rs.map ρ) k=some b->∃ q c,rst hp rs q=some c/\ρ q=k/\b=c.rn ρ:=λk b hb=>by
  unfold rst at hb
  by_cases h1:k<100
  ·simp only [h1,true_or,if_true] at hb
   have hl:=h.low k h1
   rw [hl.2] at hb
   exact ⟨k,b,by simp [rst,h1,hb],hl.1,(bflat k b h1 hb).symm⟩
  ·by_cases hm:k∈rs.map ρ
   ·obtain ⟨q,hq,rfl⟩:=List.mem_map.1 hm
    simp only [hm,or_true,if_true] at hb
    have hq1:100<=q:=by
     by_cases hq1:100<=q
     ·exact hq1
     ·exact absurd (by rw [(h.low q (by omega)).1];omega) h1
    obtain ⟨c,e1,e2⟩:=h.at' q hq hq1
    rw [e2] at hb;cases hb
    exact ⟨q,c,by simp [rst,hq,e1],rfl,rfl⟩
   ·simp [h1,hm] at hb
 refine ⟨hi.enter,λx hx=>?_,λk b hb=>?_,λE l stop r S W hgok hsat hinj hlow hR hX hS hdis=>?_⟩
 ·obtain ⟨y,hy,rfl⟩:=Array.mem_map.1 hx
  have:=hi.cids y hy
  exact ⟨hpl y this.1,(zcb (hpl y this.1)).2 (zki (λk hk=>h.dom1 hk) ((zcb this.1).1 this.2))⟩
 ·obtain ⟨q,c,h1,rfl,rfl⟩:=back k b hb
  exact Blk.ids_rn (λk hk=>h.dom1 hk) (hi.closed q c h1)
 ·have hcap:(caps.map (zao ρ)).map (ren r)=caps.map (ren λk=>r (ρ k)):=by
   rw [Array.map_map]
   refine Array.map_congr_left λx hx=>?_
   have:=(hi.cids x hx).1
   simp only [Function.comp]
   rw [<-zc8 (r:=ρ) this,zc5]
  rw [hcap]
  refine (hi.run E l stop (λk=>r (ρ k)) S W hgok (λk b hk=>⟨?_,hi.closed k b hk⟩) (λk l hk hl e=>?_) (λk hk hd=>?_) hR hX hS (λi hd h1=>?_)).mono (λ_ _ hh=>⟨hh.1,hh.2.1,λk hk=>?_⟩)
  ·have hd:dom (rst hp rs) k:=by unfold dom;rw [hk];simp
   have hd':=h.dom1 hd
   unfold dom at hd'
   cases hb:rst hp' (rs.map ρ) (ρ k) with
   | none=>exact absurd hb hd'
   | some b' =>
    have e:b'=b.rn ρ:=by
     unfold rst at hb hk
     by_cases h1:k<100
     ·have hl:=h.low k h1
      simp only [h1,true_or,if_true] at hk
      rw [hl.1] at hb
      simp only [h1,true_or,if_true] at hb
      rw [hl.2,hk] at hb
      cases hb
      exact (bflat k b h1 hk).symm
     ·have hm:k∈rs:=by
       by_cases hm:k∈rs
       ·exact hm
       ·simp [h1,hm] at hk
      simp only [hm,or_true,if_true] at hk
      obtain ⟨c,e1,e2⟩:=h.at' k hm (by omega)
      rw [hk] at e1;cases e1
      have hm':ρ k∈rs.map ρ:=List.mem_map.2 ⟨k,hm,rfl⟩
      simp only [hm',or_true,if_true] at hb
      rw [e2] at hb;cases hb;rfl
    have:=(hsat _ b' hb).1
    rw [e,Blk.rn_obj] at this
    exact this
  ·have e2:=hinj _ _ (h.dom1 hk) (h.dom1 hl) e
   have mem:∀ k,dom (rst hp rs) k->100<=k->k∈rs:=λk hk h1=>by
    unfold dom rst at hk
    by_cases hm:k∈rs
    ·exact hm
    ·simp [hm] at hk;omega
   by_cases h1:k<100
   ·by_cases h2:l<100
    ·rw [(h.low k h1).1,(h.low l h2).1] at e2;exact e2
    ·have:=h.big l (mem l hl (by omega)) (by omega)
     rw [(h.low k h1).1] at e2;omega
   ·by_cases h2:l<100
    ·have:=h.big k (mem k hk (by omega)) (by omega)
     rw [(h.low l h2).1] at e2;omega
    ·exact h.inj k (mem k hk (by omega)) l (mem l hl (by omega)) (by omega) (by omega) e2
  ·show r (ρ k)=k
   have:=h.dom1 hd
   rw [(h.low k hk).1] at this |-
   exact hlow k hk this
  ·refine hdis _ (h.dom1 hd) (h.big i ?_ h1)
   unfold dom rst at hd
   by_cases hm:i∈rs
   ·exact hm
   ·simp [hm] at hd;omega
  ·unfold dom at hk
   cases hb:rst hp' (rs.map ρ) k with
   | none=>exact absurd hb hk
   | some b =>
    obtain ⟨q,c,h1,h2,_⟩:=back k b hb
    rw [<-h2]
    exact hh.2.2 q (by unfold dom;rw [h1];simp)
end
end
section
variable {P:Program} {G:Hp} {V:XV}
variable {C:Ctx} {n:Nat} {d:List Deferred} {ro:Option Nat} {s:GS} {K:Exit->GS->Prop} {yc:Nat}
theorem zfw (rest':List Oper) {ops:Array Oper} {base:Nat} {pn:List FuncId} {Q:Exit->Act->World->Prop} {Kn:(Nat->Value)->Hp->Nat->Prop} {Kp:Value->Prop} {hp0:Hp} {ts0:Nat->Value} {l0:List Oper} (hGF:zbm C.G) (hR:∀ y,C.Y=some y->zgg P C.G C.E y) (hb:100<=base):∀ (l:List Oper) (k:Nat) (ts:Nat->Value) (hp:Hp) (tr:Tr) (yc:Nat) (wr yd:Bool) (r:Nat->Nat) (a:Act) (W:World),
  (∀ o∈l,(((∀ dd,o.dst=some dd->dd<n)/\∀ c,o.op≠.defer c)/\unC P o)/\o∈l0)->(∀ t,(∀ o∈l0,o.dst≠some t)->ts t=ts0 t)->RI C n d r ts hp yc a W->(∀ x,base+8*k<=x->hp x=none)->(wr=false->∀ k b,hp0 k=some b->hp k=some b) ->
  (∀ ts hp yc r a W,Kn ts hp yc->RI C n d r ts hp yc a W->(∀ x,base+8*(k+l.length)<=x->hp x=none)->(∀ t,(∀ o∈l0,o.dst≠some t)->ts t=ts0 t)->wpListIn (Fw P ro) 0 P ops Q rest' a W) ->
  (∀ pv ts hp yc r a W,Kp pv->(∀ k b,hp0 k=some b->hp k=some b)->(∀ t,(∀ o∈l0,o.dst≠some t)->ts t=ts0 t)->RI C n d r ts hp yc a W->Q (.panic [{ v:=pv,recovered:=false }]) a W) ->
  zji P C.G ⟨C.Y,pn,false⟩ ops base (λts hp _ yc=>Kn ts hp yc) (λpv _=>Kp pv) k l ts hp tr yc wr yd->wpListIn (Fw P ro) 0 P ops Q (l++rest') a W
 | [],k,ts,hp,tr,yc,wr,yd,r,a,W,_,hts,hi,hn,_,hQ,_,h=>hQ ts hp yc r a W h hi (by simpa using hn) hts
 | o::l,k,ts,hp,tr,yc,wr,yd,r,a,W,hd,hts,hi,hn,hs0,hQ,hQp,h=>by
  have hlen:k+(o::l).length=(k+1)+l.length:=by simp;omega
  rw [hlen] at hQ
  refine wpListIn_step λK hK=>?_
  simp only [zji] at h
  cases hw:zc0 ops o ts with
  | none=>rw [hw] at h;exact h.elim
  | some b =>
   rw [hw] at h
   rw [zg6 hi.rel hw]
   cases b with
   | true =>
    simp only at h
    simp only [if_true]
    obtain ⟨e,h1,hs,hyd,h3⟩:=zgt hGF hi.glob h
    have hs1:(wr||!e.ws.isEmpty)=false->∀ k b,hp0 k=some b->zaw hp (e.ws++e.ns) k=some b:=λhwr k' b hk'=>by
     simp only [Bool.or_eq_false_iff] at hwr
     have e0:e.ws=[]:=by have:=hwr.2;simpa using this
     have hh:=hs0 hwr.1 k' b hk'
     rw [e0,List.nil_append,zbb (λhm=>by have:=hs.ns k' hm;rw [hn k' (by omega)] at hh;cases hh)]
     exact hh
    refine z3y hGF hR o e ts hp yc r a W 0 _ _ hi (hd o (by simp)).1.1 h1 (λx hx=>(hs.ws x hx).2) (λx hx=>?_) (λr' a' W' hpn hi'=>hK _ _ ?_) (λpv W' yc' hpn hi'=>?_)
    ·have:=hs.ns x hx;exact ⟨hn x (by omega),by omega⟩
    ·rw [hpn] at h3
     refine zfw rest' hGF hR hb l (k+1) _ _ _ _ _ _ r' a' W' (λo ho=>hd o (List.mem_cons_of_mem _ ho)) (λt ht=>(zel (ht o (hd o (by simp)).2)).trans (hts t ht)) hi' (λx hx=>?_) hs1 hQ hQp h3
     rw [zbb (λhm=>?_)]
     ·exact hn x (by omega)
     ·have:x∈zab e.ws\/x∈zab e.ns:=by simpa [zab] using hm
      rcases this with h|h
      ·exact (hs.ws x h).2.1 (hn x (by omega))
      ·have:=hs.ns x h;omega
    ·rw [hpn] at h3
     obtain ⟨_,hwr,hkp⟩:=h3
     simp only [Bool.or_eq_false_iff] at hwr
     exact hQp pv ts hp yc' r a W' hkp (hs0 hwr.1) hts hi'
   | false =>
    simp only at h
    simp only [Bool.false_eq_true,if_false]
    exact ⟨zs8 (Y:=none) o ts r _ a W hi.rel ⟨h.1,(hd o (by simp)).1.2⟩,hK _ _ (zfw rest' hGF hR hb l (k+1) _ _ _ _ _ _ r _ W (λo ho=>hd o (List.mem_cons_of_mem _ ho)) (λt ht=>(zel (ht o (hd o (by simp)).2)).trans (hts t ht)) (hi.put_undef (hd o (by simp)).1.1.1) (λx hx=>hn x (by omega)) hs0 hQ hQp h.2)⟩

theorem zr0 {o:Oper} {a:Act} {W:World} {R Rp:Value->World->Prop} {x y:Operand} {t e:TypeId} {i:TypeInfo} {z:Value} {g sl cap g2 off2 m m':Nat} {cur:Array Value} {nw:List Value}
  (ho:o.op=.call { callee:=.builtin .append,args:=#[x,y],argTypes:=#[t,t] }) (ht:P.underlying t=some (.slice e)) (hi:P.info? e=some i) (hz:i.zero=some z)
  (hx:a.eval x=.slice (some ⟨g,0,none⟩) sl cap) (hg:W.heap[g]? = some (.cells cur e (0,0))) (hy:a.eval y=.slice (some ⟨g2,off2,none⟩) m m') (hl:nw.length=m*i.size) (hn:∀ j u,nw[j]? = some u->W.cell? ((⟨g2,off2,none⟩:Addr).add j)=some u)
  (hc:cap*i.size<=cur.size) (hsl:sl<=cap) (hb1:sl+m<=maxLen) (hb2:(sl+m)*i.bytes<=140737488355328) (h1:∀ u∈nw,u.oneCell'=true)
  (room:sl+m<=cap->R (.slice (some ⟨g,0,none⟩) (sl+m) cap) (W.setRow g (cur.toList.take (sl*i.size)++nw++cur.toList.drop (sl*i.size+nw.length)).toArray))
  (grow:cap<sl+m->∀ cap',sl+m<=cap'->R (.slice (some ⟨W.heap.size,0,none⟩) (sl+m) cap') (W.drew.alloc (.cells ((cur.toList.take (sl*i.size)).toArray++nw.toArray++Builtin.zeroCells z.cells (cap' - (sl+m))) e))):zlj P o a W R Rp:=by
 unfold zlj
 by_cases hr:sl+m<=cap
 ·have hfit:sl*i.size+nw.length<=cur.size:=by
   rw [hl,<-Nat.add_mul];exact Nat.le_trans (Nat.mul_le_mul_right _ hr) hc
  have h:=run_append_room (P:=P) W t o.type e i ht hi g sl cap cur hg ⟨g2,off2,none⟩ m m' _ hl hn h1 hr hfit
  simp only [execOp,ho,resolve,Sem.run_bind,Sem.run_pure,Result.andThen_ok,invoke,builtin,List.map_toArray,List.map_cons,List.map_nil,hx,hy,h]
  exact room hr
 ·have hlo:(cur.toList.take (sl*i.size)).length=sl*i.size:=by
   have:=Nat.mul_le_mul_right i.size hsl
   simp [List.length_take];omega
  have hold:∀ j u,(cur.toList.take (sl*i.size))[j]? = some u->W.cell? ((⟨g,0,none⟩:Addr).add j)=some u:=λj u hj=>by
   rw [List.getElem?_take] at hj
   split at hj
   ·rw [Addr.add_lit]
    simp only [World.cell?,hg,Nat.zero_add]
    simpa using hj
   ·cases hj
  have h:=run_append_grow (P:=P) W t o.type e i z ht hi hz ⟨g,0,none⟩ sl cap _ hlo hold ⟨g2,off2,none⟩ m m' _ hl hn (by omega) (by simp only [maxLen] at hb1;omega) (growslice_fits (by omega) hb2)
  simp only [execOp,ho,resolve,Sem.run_bind,Sem.run_pure,Result.andThen_ok,invoke,builtin,List.map_toArray,List.map_cons,List.map_nil,hx,hy,h]
  exact grow (by omega) _ (grownCap_ge _ _ _ _)
theorem zso {r:Nat->Nat} {b:Blk} {W:World} {g q:Nat} {u:Value} (hg:W.heap[g]? = some (b.obj r)) (hq:b.c[q]? = some u) (hf:zbj u=true) (hrd:b.T.rd=true):W.cell? ⟨g,q,none⟩=some u:=by
 obtain ⟨c,T⟩:=b
 cases T with
 | ty t =>
  simp only [World.cell?,hg,Blk.obj,Array.getElem?_map]
  rw [hq];simp [zcc hf]
 | raw t fr=>simpa [World.cell?,hg,Blk.obj] using hq
 | mp=>cases hrd
theorem zk4 {r:Nat->Nat} {ts:Nat->Value} {hp:Hp} {a:Act} {W:World} {ro:Option Nat} {mn:Nat} {o:Oper} {tx ty:Tmp} {t e:TypeId} {i:TypeInfo} {z:Value} {k j off2 sl cap m m' nk:Nat} {b b2:Blk} {nw:List Value} {next:Act->World->Prop} {Q:Exit->Act->World->Prop}
  (h:RI C n d r ts hp yc a W) (hd:∀ dd,o.dst=some dd->dd<n)
  (ho:o.op=.call { callee:=.builtin .append,args:=#[.tmp tx,.tmp ty],argTypes:=#[t,t] }) (ht:P.underlying t=some (.slice e)) (hi:P.info? e=some i) (hz:i.zero=some z)
  (hx:ts tx=.slice (some ⟨k,0,none⟩) sl cap) (hk:100<=k) (hb:hp k=some b) (hbT:b.T=.ty e) (hbf:∀ x∈b.c,zbj x=true)
  (hy:ts ty=.slice (some ⟨j,off2,none⟩) m m') (hb2:hp j=some b2) (hrd:b2.T.rd=true) (hnl:nw.length=m*i.size) (hnw:∀ q u,nw[q]? = some u->b2.c[off2+q]? = some u) (hb2f:∀ x∈nw,zbj x=true) (h1:∀ u∈nw,u.oneCell'=true) (hzf:∀ c,∀ x∈Builtin.zeroCells z.cells c,zbj x=true)
  (hc:cap*i.size<=b.c.size) (hsl:sl<=cap) (hs1:sl+m<=maxLen) (hs2:(sl+m)*i.bytes<=140737488355328) (hnk:hp nk=none/\100<=nk)
  (room:sl+m<=cap->∀ r' a' W',RI C n d r' (zbl ts o.dst (.slice (some ⟨k,0,none⟩) (sl+m) cap)) (upd hp k (some ⟨(b.c.toList.take (sl*i.size)++nw++b.c.toList.drop (sl*i.size+nw.length)).toArray,e⟩)) yc a' W'->next a' W')
  (grow:cap<sl+m->∀ cap',sl+m<=cap'->∀ r' a' W',RI C n d r' (zbl ts o.dst (.slice (some ⟨nk,0,none⟩) (sl+m) cap')) (upd hp nk (some ⟨(b.c.toList.take (sl*i.size)).toArray++nw.toArray++Builtin.zeroCells z.cells (cap' - (sl+m)),e⟩)) yc a' W'->next a' W') :
  o.wpIn (Fw P ro) mn P a W next Q:=by
 obtain ⟨bc,bT⟩:=b
 simp only at hbT
 subst hbT
 simp only at hbf hc room grow
 have hg:W.heap[r k]? = some (.cells bc e (0,0)):=by
  have:=(h.sat k _ hb).1
  rw [Blk.obj_flat hbf] at this
  exact this
 have hn:∀ q u,nw[q]? = some u->W.cell? ((⟨r j,off2,none⟩:Addr).add q)=some u:=λq u hq=>by
  rw [Addr.add_lit]
  exact zso (h.sat j b2 hb2).1 (hnw q u hq) (hb2f u (List.mem_of_getElem? hq)) hrd
 have ex:a.eval (.tmp tx)=.slice (some ⟨r k,0,none⟩) sl cap:=by
  have:=(h.rel tx).resolve_left (by rw [hx];simp [zbz])
  rw [hx] at this
  exact this.1
 have ey:a.eval (.tmp ty)=.slice (some ⟨r j,off2,none⟩) m m':=by
  have:=(h.rel ty).resolve_left (by rw [hy];simp [zbz])
  rw [hy] at this
  exact this.1
 have hdk:dom hp k:=by unfold dom;rw [hb];simp
 have fo:∀ x∈bc.toList.take (sl*i.size),zbj x=true:=λx hx=>hbf x (by simpa using List.mem_of_mem_take hx)
 have fn:∀ x∈nw,zbj x=true:=hb2f
 refine zev (by rw [ho];intro c;simp) (zr0 (R:=λu W'=>next (a.put o.dst u) W') (Rp:=λ_ _=>False) ho ht hi hz ex hg ey hnl hn hc hsl hs1 hs2 h1 (λhr=>?_) (λhr cap' hcap=>?_)) (λu W' h=>h) (λpv W' h=>h.elim)
 ·have hf:∀ x∈(bc.toList.take (sl*i.size)++nw++bc.toList.drop (sl*i.size+nw.length)).toArray,zbj x=true:=λx hx=>by
   simp only [List.mem_toArray,List.mem_append] at hx
   rcases hx with (hx|hx)|hx
   ·exact fo x hx
   ·exact fn x hx
   ·exact hbf x (by simpa using List.mem_of_mem_drop hx)
  refine room hr r _ _ (h.after (e:=⟨.slice (some ⟨k,0,none⟩) (sl+m) cap,[],[(k,⟨_,.ty e⟩)],[],none,false⟩) hd (λ_ _=>rfl) (by simp [zap,zau,zaj,zal,zc7,hdk]) ⟨rfl,rfl,rfl,by simp,λq hq hnq=>?_,λp hp1=>?_,by simp,by simp⟩ (by simp [zab,hdk,hk]) (by simp [zab]))
  ·exact setRow_other W (r k) q _ (λe=>hnq _ (List.mem_singleton.2 rfl) e.symm)
  ·simp only [List.append_nil,List.mem_singleton] at hp1
   subst hp1
   refine ⟨?_,Blk.flat_ids hf⟩
   rw [Blk.obj_flat hf]
   exact setRow_heap W (r k) bc _ e (0,0) hg
 ·have hf:∀ x∈(bc.toList.take (sl*i.size)).toArray++nw.toArray++Builtin.zeroCells z.cells (cap' - (sl+m)),zbj x=true:=λx hx=>by
   simp only [Array.mem_append,List.mem_toArray] at hx
   rcases hx with (hx|hx)|hx
   ·exact fo x hx
   ·exact fn x hx
   ·exact hzf _ x hx
  have hnd:¬dom hp nk:=by unfold dom;simp [hnk.1]
  have hr':∀ q,dom hp q->upd r nk W.heap.size q=r q:=λq hq=>zaa _ _ (λe=>hnd (e▸hq))
  have hv:(Value.slice (some ⟨W.heap.size,0,none⟩) (sl+m) cap')=ren (upd r nk W.heap.size) (.slice (some ⟨nk,0,none⟩) (sl+m) cap'):=by simp [ren,zas,zan,zao,zbg]
  rw [hv]
  refine grow hr cap' hcap (upd r nk W.heap.size) _ _ (h.drew.after (e:=⟨.slice (some ⟨nk,0,none⟩) (sl+m) cap',[],[],[(nk,⟨_,.ty e⟩)],none,false⟩) hd hr' (by simp [zap,zau,zaj,zal,zc7,zab]) ⟨rfl,rfl,rfl,(by show W.heap.size<=(W.heap.push _).size;simp),λq hq _=>?_,λp hp1=>?_,λp hp1=>?_,by simp⟩ (by simp [zab]) (by simp [zab,hnk]))
  ·exact Below.heap_alloc _ _ _ hq
  ·simp only [List.nil_append,List.mem_singleton] at hp1
   subst hp1
   refine ⟨?_,Blk.flat_ids hf⟩
   rw [Blk.obj_flat hf]
   simp only [zbg]
   exact heap_alloc_new W.drew _
  ·simp only [List.mem_singleton] at hp1
   subst hp1
   show W.heap.size<=upd r nk W.heap.size nk
   rw [zbg]
   exact Nat.le_refl _
def z8d (P:Program) (o:Oper) (ts:Nat->Value) (hp:Hp) (nk:Nat) (next:(Nat->Value)->Hp->Prop):Prop :=
 ∃ (tx ty:Tmp) (t e:TypeId) (i:TypeInfo) (z:Value) (k j off2 sl cap m m':Nat) (b b2:Blk) (nw:List Value),
  o.op=.call { callee:=.builtin .append,args:=#[.tmp tx,.tmp ty],argTypes:=#[t,t] }/\P.underlying t=some (.slice e)/\P.info? e=some i/\i.zero=some z /\
  ts tx=.slice (some ⟨k,0,none⟩) sl cap/\100<=k/\hp k=some b/\b.T=.ty e/\(∀ x∈b.c,zbj x=true) /\
  ts ty=.slice (some ⟨j,off2,none⟩) m m'/\hp j=some b2/\b2.T.rd=true/\nw.length=m*i.size/\(∀ q u,nw[q]? = some u->b2.c[off2+q]? = some u)/\(∀ x∈nw,zbj x=true)/\(∀ u∈nw,u.oneCell'=true)/\(∀ c,∀ x∈Builtin.zeroCells z.cells c,zbj x=true) /\
  cap*i.size<=b.c.size/\sl<=cap/\sl+m<=maxLen/\(sl+m)*i.bytes<=140737488355328 /\
  (sl+m<=cap->next (zbl ts o.dst (.slice (some ⟨k,0,none⟩) (sl+m) cap)) (upd hp k (some ⟨(b.c.toList.take (sl*i.size)++nw++b.c.toList.drop (sl*i.size+nw.length)).toArray,e⟩))) /\
  (cap<sl+m->∀ cap',sl+m<=cap'->next (zbl ts o.dst (.slice (some ⟨nk,0,none⟩) (sl+m) cap')) (upd hp nk (some ⟨(b.c.toList.take (sl*i.size)).toArray++nw.toArray++Builtin.zeroCells z.cells (cap' - (sl+m)),e⟩)))
theorem zwq {id:Nat} {pre post:List Oper} {o:Oper} (pn:List FuncId) (hg:o.guard=none) (hdst:(zhd n (pre++o::post)&&zrz P (pre++o::post))=true)
  (h:∀ (Q:(Nat->Value)->Hp->Tr->Nat->Prop) (Qp:Value->Tr->Prop),(∀ ts hp tr yc,K .normal ⟨ts,hp,s.B+8*(pre.length+1+post.length),yc⟩->Q ts hp tr yc) ->
   zji P C.G ⟨C.Y,pn,false⟩ (pre++o::post).toArray s.B (λts hp _ yc=>z8d P o ts hp (s.B+8*pre.length) λts' hp'=>zji P C.G ⟨C.Y,pn,false⟩ (pre++o::post).toArray s.B Q (λ_ _=>False) (pre.length+1) post ts' hp' [] yc true false)
    (λ_ _=>False) 0 pre s.ts s.hp [] s.yc false false):GW P C n d ro (.region id (pre++o::post).toArray false) s K:=by
 intro r a W hi
 simp only [Bool.and_eq_true] at hdst
 replace h:=h (λts hp _ yc=>K .normal ⟨ts,hp,s.B+8*(pre.length+1+post.length),yc⟩) (λ_ _=>False) (λ_ _ _ _ a=>a)
 have ok:∀ q∈pre++o::post,(((∀ dd,q.dst=some dd->dd<n)/\∀ c,q.op≠.defer c)/\unC P q)/\q∈pre++o::post:=λq hq=>⟨⟨zfm hdst.1 hq,zg0 hdst.2 q hq⟩,hq⟩
 refine wpIn_region_lit ?_
 refine zfw (o::post) (ops:=(pre++o::post).toArray) (base:=s.B) (pn:=pn) (Kn:=λts hp yc=>z8d P o ts hp (s.B+8*pre.length) λts' hp'=>zji P C.G ⟨C.Y,pn,false⟩ (pre++o::post).toArray s.B (λts hp _ yc=>K .normal ⟨ts,hp,s.B+8*(pre.length+1+post.length),yc⟩) (λ_ _=>False) (pre.length+1) post ts' hp' [] yc true false)
  (Kp:=λ_=>False) (hp0:=s.hp) (ts0:=s.ts) (l0:=pre++o::post) hi.flat hi.rounds hi.low pre 0 s.ts s.hp [] s.yc false false r a W (λq hq=>ok q (List.mem_append_left _ hq)) (λ_ _=>rfl) hi.ri (by simpa using hi.free) (λ_ _ _ h=>h) ?_ (λ_ _ _ _ _ _ _ h=>h.elim) ?_
 ·intro ts hp yc r' a' W' hk hi' hf hts
  obtain ⟨tx,ty,t,e,i,z,k,j,off2,sl,cap,m,m',b,b2,nw,ho,ht,hii,hz,hx,hk1,hb,hbT,hbf,hy,hb2,hrd,hnl,hnw,hb2f,h1,hzf,hc,hsl,hs1,hs2,hroom,hgrow⟩:=hk
  have hok:=ok o (by simp)
  have tail:∀ (ts':Nat->Value) (hp':Hp) r'' a'' W'',RI C n d r'' ts' hp' yc a'' W''->(∀ x,s.B+8*(pre.length+1)<=x->hp' x=none)->(∀ q,(∀ o'∈pre++o::post,o'.dst≠some q)->ts' q=s.ts q) ->
    zji P C.G ⟨C.Y,pn,false⟩ (pre++o::post).toArray s.B (λts hp _ yc=>K .normal ⟨ts,hp,s.B+8*(pre.length+1+post.length),yc⟩) (λ_ _=>False) (pre.length+1) post ts' hp' [] yc true false ->
    wpListIn (Fw P ro) 0 P (pre++o::post).toArray (λe a' W'=>∃ s' r',K e s'/\GI P C n d r' s' a' W') post a'' W'':=λts' hp' r'' a'' W'' hi'' hf'' hts'' hl=>by
   have:=zfw (ro:=ro) [] (ops:=(pre++o::post).toArray) (base:=s.B) (pn:=pn) (Q:=λe a' W'=>∃ s' r',K e s'/\GI P C n d r' s' a' W') (Kn:=λts hp yc=>K .normal ⟨ts,hp,s.B+8*(pre.length+1+post.length),yc⟩) (Kp:=λ_=>False) (hp0:=s.hp) (ts0:=s.ts) (l0:=pre++o::post) hi.flat hi.rounds hi.low post (pre.length+1) ts' hp' [] yc true false r'' a'' W''
    (λq hq=>ok q (by simp [hq])) hts'' hi'' hf'' (by simp) (λts hp yc r a W hk hi3 hf3 _=>wpListIn_nil ⟨⟨ts,hp,_,yc⟩,r,hk,hi3,hf3,by have:=hi.low;simp only;omega,hi.flat,hi.rounds⟩) (λ_ _ _ _ _ _ _ h=>h.elim) hl
   simpa using this
  refine wpListIn_plain hg λK' hK'=>?_
  have hf0:∀ x,s.B+8*pre.length<=x->hp x=none:=by simpa using hf
  refine zk4 hi' hok.1.1.1 ho ht hii hz hx hk1 hb hbT hbf hy hb2 hrd hnl hnw hb2f h1 hzf hc hsl hs1 hs2 (nk:=s.B+8*pre.length) ⟨hf0 _ (Nat.le_refl _),by have:=hi.low;omega⟩ (λhr r'' a'' W'' hi''=>hK' _ _ (tail _ _ r'' a'' W'' hi'' (λx hx'=>?_) (λq hq=>(zel (hq o (by simp))).trans (hts q hq)) (hroom hr))) (λhr cap' hc' r'' a'' W'' hi''=>hK' _ _ (tail _ _ r'' a'' W'' hi'' (λx hx'=>?_) (λq hq=>(zel (hq o (by simp))).trans (hts q hq)) (hgrow hr cap' hc')))
  ·rw [zaa _ _ (λe=>?_)]
   ·exact hf0 x (by omega)
   ·subst e;rw [hf0 x (by omega)] at hb;cases hb
  ·rw [zaa _ _ (λe=>by omega)]
   exact hf0 x (by omega)
 ·exact h
end
section
variable {P:Program} {C:Ctx} {n:Nat} {d:List Deferred} {ro:Option Nat} {s:GS} {K:Exit->GS->Prop}
def z96 (J:GS->Prop) (e:Exit) (s:GS):Prop:=e=.normal/\J s
theorem z74 {c:Code} {id:Nat} (J:GS->Prop) (h:GW P C n d ro c s (zey id (z96 J))) (k:∀ s',J s'->K .normal s'):GW P C n d ro c s (zey id K) :=
 zdu h λe s' hs=>by
  cases e with
  | exit i =>
   simp only [zey] at hs |-
   split at hs
   ·rename_i hi;rw [if_pos hi];exact k s' hs.2
   ·cases hs.1
  | normal=>exact k s' hs.2
  | _=>cases hs.1
@[simp] theorem zjl (J:GS->Prop) (s:GS):z96 J .normal s=J s:=by simp [z96]
def zi9 (P:Program) (T:TypeId):Option Nat:=(P.info? T).map (·.bytes)
theorem z2j {o:Oper} {ts:Nat->Value} {hp:Hp} {nk:Nat} {next:(Nat->Value)->Hp->Prop} {tx ty:Tmp} {t e:TypeId} {sz by':Nat} {z:Value} {k j off2 sl cap m m':Nat} {c nw:List Value} {b2:Blk}
  (ho:o.op=.call { callee:=.builtin .append,args:=#[.tmp tx,.tmp ty],argTypes:=#[t,t] }) (ht:P.underlying t=some (.slice e)) (hs:zaz P e=some sz) (hz:zbq P e=some z) (hby:zi9 P e=some by')
  (hx:ts tx=.slice (some ⟨k,0,none⟩) sl cap) (hk:100<=k) (hb:hp k=some ⟨c.toArray,.ty e⟩) (hbf:∀ x∈c,zbj x=true)
  (hy:ts ty=.slice (some ⟨j,off2,none⟩) m m') (hb2:hp j=some b2) (hnw:∀ q u,nw[q]? = some u->b2.c[off2+q]? = some u) (hb2f:∀ x∈nw,zbj x=true) (h1:∀ u∈nw,u.oneCell'=true) (hzf:∀ q,∀ x∈Builtin.zeroCells z.cells q,zbj x=true)
  (hm:m*sz=nw.length) (hc:cap*sz<=c.length) (hsl:sl<=cap) (hs1:sl+m<=maxLen) (hs2:(sl+m)*by'<=140737488355328)
  (room:sl+m<=cap->next (zbl ts o.dst (.slice (some ⟨k,0,none⟩) (sl+m) cap)) (upd hp k (some ⟨(c.take (sl*sz)++nw++c.drop (sl*sz+nw.length)).toArray,.ty e⟩)))
  (grow:cap<sl+m->∀ cap',sl+m<=cap'->next (zbl ts o.dst (.slice (some ⟨nk,0,none⟩) (sl+m) cap')) (upd hp nk (some ⟨(c.take (sl*sz)++nw++(Builtin.zeroCells z.cells (cap' - (sl+m))).toList).toArray,.ty e⟩))) (hrd:b2.T.rd=true:=by first|rfl|assumption):z8d P o ts hp nk next:=by
 unfold zaz at hs;unfold zbq at hz;unfold zi9 at hby
 cases hi:P.info? e with
 | none=>rw [hi] at hs;cases hs
 | some i =>
  rw [hi] at hs hz hby
  simp only [Option.map_some,Option.some.injEq,Option.bind_some] at hs hz hby
  subst hs;subst hby
  refine ⟨tx,ty,t,e,i,z,k,j,off2,sl,cap,m,m',_,_,nw,ho,ht,hi,hz,hx,hk,hb,rfl,by simpa using hbf,hy,hb2,hrd,hm.symm,hnw,hb2f,h1,hzf,?_,hsl,hs1,hs2,λhr=>?_,λhr cap' hc'=>?_⟩
  ·simpa using hc
  ·have:=room hr
   exact this
  ·have:=grow hr cap' hc'
   rw [show ((c.take (sl*i.size)).toArray++nw.toArray++Builtin.zeroCells z.cells (cap' - (sl+m)))=(c.take (sl*i.size)++nw++(Builtin.zeroCells z.cells (cap' - (sl+m))).toList).toArray by
    rw [<-List.append_toArray,<-List.append_toArray,Array.toArray_toList]]
   exact this
theorem zxc {o:Oper} {ts:Nat->Value} {hp:Hp} {nk:Nat} {next:(Nat->Value)->Hp->Prop} {tx ty:Tmp} {t e:TypeId} {sz by':Nat} {z:Value} {k j sl cap m m':Nat} {c c2:List Value} {T2:BTy}
  (ho:o.op=.call { callee:=.builtin .append,args:=#[.tmp tx,.tmp ty],argTypes:=#[t,t] }) (ht:P.underlying t=some (.slice e)) (hs:zaz P e=some sz) (hz:zbq P e=some z) (hby:zi9 P e=some by')
  (hx:ts tx=.slice (some ⟨k,0,none⟩) sl cap) (hk:100<=k) (hb:hp k=some ⟨c.toArray,.ty e⟩) (hbf:∀ x∈c,zbj x=true)
  (hy:ts ty=.slice (some ⟨j,0,none⟩) m m') (hb2:hp j=some ⟨c2.toArray,T2⟩) (hb2f:∀ x∈c2,zbj x=true) (h1:∀ u∈c2,u.oneCell'=true) (hzf:∀ q,∀ x∈Builtin.zeroCells z.cells q,zbj x=true)
  (hm:m*sz=c2.length) (hc:cap*sz<=c.length) (hsl:sl<=cap) (hs1:sl+m<=maxLen) (hs2:(sl+m)*by'<=140737488355328)
  (room:sl+m<=cap->next (zbl ts o.dst (.slice (some ⟨k,0,none⟩) (sl+m) cap)) (upd hp k (some ⟨(c.take (sl*sz)++c2++c.drop (sl*sz+c2.length)).toArray,.ty e⟩)))
  (grow:cap<sl+m->∀ cap',sl+m<=cap'->next (zbl ts o.dst (.slice (some ⟨nk,0,none⟩) (sl+m) cap')) (upd hp nk (some ⟨(c.take (sl*sz)++c2++(Builtin.zeroCells z.cells (cap' - (sl+m))).toList).toArray,.ty e⟩))) (hrd:T2.rd=true:=by first|rfl|assumption):z8d P o ts hp nk next :=
 z2j ho ht hs hz hby hx hk hb hbf hy hb2 (λq u hq=>by simpa using hq) hb2f h1 hzf hm hc hsl hs1 hs2 room grow hrd
theorem zqb {id:Nat} {l:List Oper} {o:Oper} {post:List Oper} (j:Nat) (hl:l.drop j=o::post) (pn:List FuncId) (hg:o.guard=none) (hdst:(zhd n l&&zrz P l)=true)
  (h:∀ (Q:(Nat->Value)->Hp->Tr->Nat->Prop) (Qp:Value->Tr->Prop),(∀ ts hp tr yc,K .normal ⟨ts,hp,s.B+8*l.length,yc⟩->Q ts hp tr yc) ->
   zji P C.G ⟨C.Y,pn,false⟩ l.toArray s.B (λts hp _ yc=>z8d P o ts hp (s.B+8*(l.take j).length) λts' hp'=>zji P C.G ⟨C.Y,pn,false⟩ l.toArray s.B Q (λ_ _=>False) ((l.take j).length+1) post ts' hp' [] yc true false)
    (λ_ _=>False) 0 (l.take j) s.ts s.hp [] s.yc false false):GW P C n d ro (.region id l.toArray false) s K:=by
 have e:l=l.take j++o::post:=by rw [<-hl,List.take_append_drop]
 have el:(l.take j).length+1+post.length=l.length:=by
  conv=>rhs;rw [e]
  simp;omega
 have hdst':(zhd n (l.take j++o::post)&&zrz P (l.take j++o::post))=true:=by rw [<-e];exact hdst
 have:=zwq (P:=P) (C:=C) (n:=n) (d:=d) (ro:=ro) (s:=s) (K:=K) (id:=id) (pre:=l.take j) (post:=post) (o:=o) pn hg hdst' (λQ Qp hQ=>by
  rw [<-e]
  exact h Q Qp λts hp tr yc hk=>hQ ts hp tr yc (by rw [el];exact hk))
 rw [<-e] at this
 exact this
theorem zp1 {G:Hp} {m m0:List (Nat×Blk)} (ρ:Nat->Nat) (l:List (Nat×Value)) (B:Nat) (hG:C.G=G) (hGF:zbm G) (h0:C.hp0=hpL G m0) (hB:100<=B)
  (hl:∀ p∈l,s.ts p.1=ren ρ p.2/\s.ts p.1≠zbz/\zap (dom (hpL G m)) p.2)
  (hm:∀ p∈m,s.hp (ρ p.1)=some (p.2.rn ρ)/\p.2.ids (dom (hpL G m))/\100<=p.1/\p.1<B/\100<=ρ p.1)
  (hi:∀ p∈m,∀ q∈m,ρ p.1=ρ q.1->p.1=q.1) (hid:∀ k,k<100->ρ k=k)
  (hk:∀ p∈m0,100<=p.1/\dom (hpL G m) p.1/\ρ p.1=p.1):WeakR C ρ s ⟨tsL l,hpL G m,B,s.yc⟩ where
 ts t:=by
  rcases zf5 (l:=l) (t:=t) with h|h
  ·exact .inl h
  ·exact .inr (hl _ h)
 hp k b hb h1:=by
  rcases za8 hb with h|h
  ·exact ⟨(hm _ h).1,(hm _ h).2.2.2.2⟩
  ·have:=(hGF k b h).1;omega
 ids k b hb:=by
  rcases za8 hb with h|h
  ·exact (hm _ h).2.1
  ·exact Blk.flat_ids ((hGF k b h).2)
 inj k q hk' hq e:=by
  dsimp only at hk' hq
  unfold dom at hk' hq
  cases hb:hpL G m k with
  | none=>exact absurd hb hk'
  | some b =>
   cases hc:hpL G m q with
   | none=>exact absurd hc hq
   | some c =>
    rcases za8 hb with h|h<;>rcases za8 hc with h'|h'
    ·exact hi _ h _ h' e
    ·have h2:=(hGF q c h').1;rw [hid q h2] at e;have:=(hm _ h).2.2.2.2;simp at this;omega
    ·have h2:=(hGF k b h).1;rw [hid k h2] at e;have:=(hm _ h').2.2.2.2;simp at this;omega
    ·have h2:=(hGF k b h).1;have h3:=(hGF q c h').1;rw [hid k h2,hid q h3] at e;exact e
 id:=hid
 rest k b hlt hb:=by
  rw [hG] at hb
  exact Blk.rn_flat (hGF k b hb).2
 keep k h1k hd:=by
  rw [h0] at hd
  unfold dom at hd
  cases hb:hpL G m0 k with
  | none=>exact absurd hb hd
  | some b =>
   rcases za8 hb with h|h
   ·exact (hk _ h).2
   ·have hlt:=(hGF k b h).1;omega
 glob k hlt:=by rw [hG];exact za6 (λp hp=>(hm p hp).2.2.1) hlt
 yc:=rfl
 free x hx:=by
  dsimp only at hx |-
  cases hb:hpL G m x with
  | none=>rfl
  | some b =>
   rcases za8 hb with h|h
   ·have:=(hm _ h).2.2.2.1;simp at this;omega
   ·have:=(hGF x b h).1;omega
 low:=hB
end
theorem zmq {z:Array Value} {n:Nat} {x:Value} (h:x∈Builtin.zeroCells z n):x∈z:=by
 simp only [Builtin.zeroCells,Array.mem_map,Array.mem_range] at h
 obtain ⟨w,hw,rfl⟩:=h
 have hz:0<z.size:=Nat.pos_of_ne_zero λe=>by rw [e] at hw;simp at hw
 have hlt:=Nat.mod_lt w hz
 rw [getElem!_pos z _ hlt]
 exact Array.getElem_mem hlt
theorem zr8 (z:Array Value) (n:Nat):(Builtin.zeroCells z n).size=n*z.size:=by simp [Builtin.zeroCells]
section
variable {P:Program} {G:Hp} {V:XV}
theorem zdf {ops:Array Oper} {base:Nat} {Q:QQ}:∀ (l:List Oper) (seen:List (Option Tmp)) (k:Nat) (ts:Nat->Value) (hp:Hp) (tr:Tr) (yc:Nat) (wr yd:Bool),(∀ j,j<k->(seen[k - 1 - j]?).bind id=(ops[j]?).bind (·.dst))->(∀ i,i<l.length->l[i]? = ops[k+i]?) ->
  zhu P G V base Q seen k l ts hp tr yc wr yd->zji P G V ops base Q.q Q.p k l ts hp tr yc wr yd
 | [],_,_,_,_,_,_,_,_,_,_,h=>h
 | o::l,seen,k,ts,hp,tr,yc,wr,yd,hs,hl,h=>by
  have ho:ops[k]? = some o:=by have:=hl 0 (by simp);simpa using this.symm
  have hs':∀ j,j<k+1->((o.dst::seen)[k+1 - 1 - j]?).bind id=(ops[j]?).bind (·.dst):=λj hj=>by
   by_cases e:j=k
   ·subst e;simp [ho]
   ·have:k+1 - 1 - j=(k - 1 - j)+1:=by omega
    rw [this,List.getElem?_cons_succ];exact hs j (by omega)
  have hl':∀ i,i<l.length->l[i]? = ops[k+1+i]?:=λi hi=>by
   have:=hl (i+1) (by simp;omega)
   rw [List.getElem?_cons_succ] at this
   rw [this];congr 1;omega
  simp only [zhu] at h
  simp only [zji]
  cases hw:zfj seen k o ts with
  | none=>rw [hw] at h;exact h.elim
  | some b =>
   rw [hw] at h
   rw [zmm hs hw]
   cases b with
   | true =>
    rw [zk9] at h
    refine znf (λe he=>⟨he.1,?_⟩) h
    have he:=he.2
    cases hpn:e.pan with
    | none=>rw [hpn] at he;exact zdf l _ _ _ _ _ _ _ _ hs' hl' he
    | some pv=>rw [hpn] at he;exact ⟨λhd=>by simpa using he.1 hd,he.2⟩
   | false=>exact ⟨h.1,zdf l _ _ _ _ _ _ _ _ hs' hl' h.2⟩
end
section
variable {P:Program} {C:Ctx} {n:Nat} {d:List Deferred} {ro:Option Nat} {s:GS} {K:Exit->GS->Prop}
def jh0 (P:Program) (G:Hp) (V:XV) (base:Nat) (q:(Nat->Value)->Hp->Tr->Nat->Prop) (seen:List (Option Tmp)) (k:Nat) (post:List Oper) (yc:Nat) (ts:Nat->Value) (hp:Hp):Prop :=
 zhu P G V base ⟨q,λ_ _=>False⟩ seen k post ts hp [] yc true false
theorem jdm {id:Nat} {l:List Oper} {o:Oper} {post:List Oper} (j:Nat) (hl:l.drop j=o::post) (pn:List FuncId) (hg:o.guard=none) (hdst:(zhd n l&&zrz P l)=true)
  (h:∀ q:(Nat->Value)->Hp->Tr->Nat->Prop,(∀ ts hp tr yc,K .normal ⟨ts,hp,s.B+8*l.length,yc⟩->q ts hp tr yc) ->
   zhu P C.G ⟨C.Y,pn,false⟩ s.B ⟨λts hp _ yc=>z8d P o ts hp (s.B+8*j) (jh0 P C.G ⟨C.Y,pn,false⟩ s.B q ((l.take (j+1)).map (·.dst)).reverse (j+1) post yc),λ_ _=>False⟩ [] 0 (l.take j) s.ts s.hp [] s.yc false false) :
  GW P C n d ro (.region id l.toArray false) s K:=by
 have hj:j<l.length:=by
  refine Classical.byContradiction λhc=>?_
  rw [List.drop_eq_nil_of_le (by omega)] at hl;cases hl
 have ej:(l.take j).length=j:=by simp;omega
 have ej1:(l.take (j+1)).length=j+1:=by simp;omega
 have epost:post=l.drop (j+1):=by
  rw [show l.drop (j+1)=(l.drop j).drop 1 by rw [List.drop_drop],hl];rfl
 refine zqb j hl pn hg hdst λQ Qp hQ=>?_
 rw [ej]
 refine zdf (Q:=⟨_,_⟩) (l.take j) [] 0 _ _ _ _ _ _ (λj hj=>absurd hj (Nat.not_lt_zero j)) (λi hi=>?_) ?_
 ·rw [ej] at hi
  rw [Nat.zero_add,List.getElem?_take,if_pos hi];simp
 ·have hh:=h Q hQ
  refine (show ∀ q q':(Nat->Value)->Hp->Tr->Nat->Prop,(∀ ts hp tr yc,q ts hp tr yc->q' ts hp tr yc)->zhu P C.G ⟨C.Y,pn,false⟩ s.B ⟨q,λ_ _=>False⟩ [] 0 (l.take j) s.ts s.hp [] s.yc false false->zhu P C.G ⟨C.Y,pn,false⟩ s.B ⟨q',λ_ _=>False⟩ [] 0 (l.take j) s.ts s.hp [] s.yc false false from ?_) _ _ ?_ hh
  ·intro q q' hqq
   have key:∀ (m:List Oper) (seen:List (Option Tmp)) (k:Nat) (ts:Nat->Value) (hp:Hp) (tr:Tr) (yc:Nat) (wr yd:Bool),zhu P C.G ⟨C.Y,pn,false⟩ s.B ⟨q,λ_ _=>False⟩ seen k m ts hp tr yc wr yd->zhu P C.G ⟨C.Y,pn,false⟩ s.B ⟨q',λ_ _=>False⟩ seen k m ts hp tr yc wr yd:=by
    intro m
    induction m with
    | nil=>intro seen k ts hp tr yc wr yd h;exact hqq _ _ _ _ h
    | cons o m ih =>
     intro seen k ts hp tr yc wr yd h
     simp only [zhu] at h |-
     cases hw:zfj seen k o ts with
     | none=>rw [hw] at h;exact h.elim
     | some b =>
      rw [hw] at h
      cases b with
      | true =>
       rw [zk9] at h |-
       refine znf (λe he=>⟨he.1,?_⟩) h
       have he:=he.2
       cases hpn:e.pan with
       | none=>rw [hpn] at he;exact ih _ _ _ _ _ _ _ _ he
       | some pv=>rw [hpn] at he;exact he
      | false=>exact ⟨h.1,ih _ _ _ _ _ _ _ _ h.2⟩
   exact key _ _ _ _ _ _ _ _ _
  ·intro ts hp _ yc ⟨tx,ty,t,e,i,z,k,j',off2,sl,cap,m,m',b,b2,nw,h1,h2,h3,h4,h5,h6,h7,h8,h9,h10,h11,h12,h13,h14,h15,h16,h17,h18,h19,h20,h21,hroom,hgrow⟩
   have tail:∀ ts' hp',jh0 P C.G ⟨C.Y,pn,false⟩ s.B Q ((l.take (j+1)).map (·.dst)).reverse (j+1) post yc ts' hp'->zji P C.G ⟨C.Y,pn,false⟩ l.toArray s.B Q (λ_ _=>False) (j+1) post ts' hp' [] yc true false:=λts' hp' hc=>by
    refine zdf (Q:=⟨Q,λ_ _=>False⟩) post _ (j+1) _ _ _ _ _ _ (λi hi=>?_) (λi hi=>?_) hc
    ·rw [List.getElem?_reverse (by simp;omega)]
     simp only [List.length_map,ej1,List.getElem?_map,List.getElem?_toArray]
     rw [show j+1 - 1 - (j+1 - 1 - i)=i by omega,List.getElem?_take,if_pos hi]
     cases l[i]?<;>rfl
    ·rw [epost,List.getElem?_drop];simp
   exact ⟨tx,ty,t,e,i,z,k,j',off2,sl,cap,m,m',b,b2,nw,h1,h2,h3,h4,h5,h6,h7,h8,h9,h10,h11,h12,h13,h14,h15,h16,h17,h18,h19,h20,h21,λhr=>tail _ _ (hroom hr),λhr cap' hc'=>tail _ _ (hgrow hr cap' hc')⟩
end

section
variable {P:Program} {G:Hp}

def GWL (P:Program) (C:Ctx) (n:Nat) (d:List Deferred) (ro:Option Nat) (c:Code) (s:GS) (K:Exit->GS->Prop):Prop :=
 ∀ r a W,GI P C n d r s a W->∀ (b:Frame) (k:List Item) (cs:List Frame),b.roundOf=ro->(Fs P).fn b.fn ->
  ∃ e a' w',(∃ s' r',K e s'/\GI P C n d r' s' a' w')/\ArrivesIn (Machine.fenced P (Fw P ro)) P (lone (b.atR a (.code c::.inLoop c::k)) cs W) b k cs e a' w'
theorem zad {C:Ctx} {n:Nat} {d:List Deferred} {ro:Option Nat} {c:Code} {s:GS} {K:Exit->GS->Prop} (h:GWL P C n d ro c s K):GW P C n d ro (.loop c) s K:=by
 intro r a W hi b k cs hro hb hr
 obtain ⟨e,a',w',hq,harr⟩:=h r a W hi b k cs hro hb
 exact ⟨e,a',w',hq,.of_steps (.one (fenced_calm hb hr rfl) stepR_loop) harr⟩
theorem zag {C:Ctx} {n:Nat} {d:List Deferred} {ro:Option Nat} {c:Code} {s:GS} {K:Exit->GS->Prop} (h:GW P C n d ro c s (zcy (λs'=>GWL P C n d ro c s' K) K)):GWL P C n d ro c s K:=by
 intro r a W hi b k cs hro hfn
 obtain ⟨e,a₁,w₁,⟨s',r',hk,hi'⟩,harr⟩:=h r a W hi b (.inLoop c::k) cs hro hfn (ze4 P _)
 cases e with
 | normal =>
  obtain ⟨e₂,a₂,w₂,hq₂,harr₂⟩:=hk r' a₁ w₁ hi' b k cs hro hfn
  exact ⟨e₂,a₂,w₂,hq₂,.of_steps (StepsIn.trans harr (.one (fenced_calm (F:=Fw P ro) (n:=0) hfn (ze4 P _) rfl) stepR_inLoop)) harr₂⟩
 | exit id=>exact ⟨_,a₁,w₁,⟨s',r',hk,hi'⟩,.pass (x:=.inLoop c) rfl (λ_ _=>.inl (by simp)) harr⟩
 | goto l=>exact ⟨_,a₁,w₁,⟨s',r',hk,hi'⟩,.pass (x:=.inLoop c) rfl (λ_ _=>.inl (by simp)) harr⟩
 | ret=>exact ⟨_,a₁,w₁,⟨s',r',hk,hi'⟩,.pass (x:=.inLoop c) rfl (λ_ _=>.inl (by simp)) harr⟩
 | panic ch=>exact ⟨_,a₁,w₁,⟨s',r',hk,hi'⟩,.pass (x:=.inLoop c) rfl (λ_ _=>.inl (by simp)) harr⟩
 | outgrown=>exact ⟨_,a₁,w₁,⟨s',r',hk,hi'⟩,.pass (x:=.inLoop c) rfl (λ_ _=>.inl (by simp)) harr⟩
theorem zeg {C:Ctx} {n:Nat} {d:List Deferred} {ro:Option Nat} {c rest:Code} {s:GS} {K:Exit->GS->Prop} (l:Nat) (I:Nat->GS->Prop) (hfl:findLabel c l=some (.seq .skip rest))
  (pass:∀ m s,I m s->GW P C n d ro rest s (ziw l (λs'=>∃ s'' m',Weak C s' s''/\I m' s''/\m'<m) K))
  (first:(∀ m s s',Weak C s' s->I m s->GW P C n d ro rest s' (ziw l (λs'=>∃ s'' m',Weak C s' s''/\I m' s'') K))->GW P C n d ro c s (ziw l (λs'=>∃ s'' m',Weak C s' s''/\I m' s'') K)):GW P C n d ro (.scope c) s K :=
 z18 l I hfl (first λm s s' hw hI=>zww hw (zdu (pass m s hI) λe s h=>by
  cases e<;>first|exact h|exact ⟨h.1,let ⟨s'',m',h1,h2,_⟩:=h.2;⟨s'',m',h1,h2⟩⟩)) λm s hI=>zf6 (zwv (pass m s hI))
@[simp] theorem jcf (k:IntKind) (T:TypeId) (v:Value) (C:Eff->Prop):z6h (some (.int k)) T v C=C (val (.iface T v) []):=nr rfl

theorem zsw {n B:Nat} {hp:Hp} {ts:Nat->Value} {r:Nat->Nat} {a:Act} {W:World} (hGF:zbm G) (hsz:a.tmps.size=n) (hd:a.defers=[]) (hrel:Rel r (dom hp) ts a)
  (hsat:Sat r (dom hp) hp W) (hinj:Inj r (dom hp)) (hlow:∀ k,k<100->dom hp k->r k=k) (hG:∀ k,k<100->hp k=G k) (hfree:∀ x,B<=x->hp x=none) (hB:100<=B) :
  GI P ⟨zff W (imO r hp),hp,r,G,some .still⟩ n [] r ⟨ts,hp,B,0⟩ a W:=by
 have ltW:∀ k,dom hp k->r k<W.heap.size:=λk hk=>by
  unfold dom at hk
  cases hb:hp k with
  | none=>exact absurd hb hk
  | some b=>exact (Array.getElem?_eq_some_iff.1 (hsat k b hb).1).1
 exact ⟨⟨hsz,hrel,hsat,hinj,⟨λk=>k<W.heap.size/\¬imO r hp k,[],⟨λ_=>Iff.rfl,rfl,rfl,rfl,Nat.le_refl _,λ_ _=>rfl⟩,λk hk=>hk.1,λi hi _ hS=>hS.2 ⟨i,hi,rfl⟩,⟨by simp [hd],List.nodup_nil⟩,by simp⟩,
   λi hi=>⟨hi,rfl⟩,hG,hlow⟩,hfree,hB,hGF,λy hy=>by cases hy;intro c x S W _ hx;simp [YG.still] at hx⟩

theorem RI.still {C:Ctx} {n:Nat} {d:List Deferred} {r:Nat->Nat} {ts:Nat->Value} {hp:Hp} {yc:Nat} {a:Act} {W:World} (h:RI C n d r ts hp yc a W) (hY:C.Y=some .still):a.defers=d:=by
 obtain ⟨S,ms,_,_,_,⟨h4,_⟩,h5⟩:=h.ext
 cases ms with
 | nil=>simpa using h4
 | cons D ms=>exact absurd hY (h5 D (by simp)).2.2

theorem z0d {C:Ctx} {n:Nat} {d:List Deferred} {r r':Nat->Nat} {ts:Nat->Value} {hp hp0:Hp} {yc:Nat} {a':Act} {W W':World} {ws:List (Nat×Blk)} (h:RI C n d r' ts hp yc a' W') (hE:C.E=zff W (imO r hp0))
  (hk0:∀ k,dom hp0 k->dom C.hp0 k/\C.r0 k=r k) (hsat:Sat r (dom hp0) hp0 W) (hcl:∀ k b,hp0 k=some b->b.ids (dom hp0)) (hhp:∀ k,dom hp0 k->hp k=zaw hp0 ws k)
  (hws:∀ k∈zab ws,dom hp0 k) (once:∀ k b c,(k,b)∈ws->(k,c)∈ws->b=c) (hid:∀ p∈ws,p.2.ids (dom hp0)):(∀ k,dom hp0 k->r' k=r k)/\Turn r (zc7 (dom hp0) []) W W' ws []:=by
 obtain ⟨S,ms,hX,hS1,hS2,_,_⟩:=h.ext
 rw [hE] at hX
 obtain ⟨hS,os,tape,output,size,hsame⟩:=hX
 have hkeep:∀ i,dom hp0 i->dom hp i/\r' i=r i:=λi hi=>by
  have h1:=hk0 i hi
  have h2:=h.keep i h1.1
  exact ⟨h2.1,h2.2.trans h1.2⟩
 refine ⟨λk hk=>(hkeep k hk).2,os,tape,output,size,λk hk hnw=>?_,λp hp1=>?_,by simp,by simp⟩
 ·by_cases hk':imO r hp0 k
  ·obtain ⟨i,hi1,rfl⟩:=hk'
   have hiw:i∉zab ws:=λhm=>by obtain ⟨p,hp1,rfl⟩:=zah.1 hm;exact hnw p hp1 rfl
   cases hb:hp0 i with
   | none=>exact absurd hb hi1
   | some b =>
    have e:hp i=some b:=by rw [hhp i hi1,zbb hiw];exact hb
    have:=(h.sat i b e).1
    rw [(hkeep i hi1).2,Blk.obj_congr (λk hk=>(hkeep k hk).2) (hcl i b hb)] at this
    rw [this,(hsat i b hb).1]
  ·exact hsame k ((hS k).2 ⟨hk,hk'⟩)
 ·simp only [List.append_nil] at hp1
  have hdm:dom hp0 p.1:=hws p.1 (zah.2 ⟨p,hp1,rfl⟩)
  have e:hp p.1=some p.2:=by rw [hhp _ hdm];exact zpy hp1 once
  have:=(h.sat _ _ e).1
  have hi:=hid p hp1
  rw [(hkeep _ hdm).2,Blk.obj_congr (λk hk=>(hkeep k hk).2) hi] at this
  exact ⟨this,Blk.ids_mono (λk hk=>.inl hk) hi⟩

theorem jas {r:Nat->Nat} {D:Nat->Prop} {A:Array Value} {ds:List Deferred} (h:∀ x∈A,zap D x):Rel r D (λt=>A.getD t undef) { tmps:=A.map (ren r),defers:=ds }:=λt=>by
 right
 dsimp only
 by_cases ht:t<A.size
 ·have e:A.getD t undef=A[t]:=by simp [Array.getD,ht]
  rw [e]
  exact ⟨by simp [Array.getD,ht],h _ (Array.getElem_mem ht)⟩
 ·have e:A.getD t undef=undef:=by simp [Array.getElem?_eq_none (Nat.le_of_not_lt ht)]
  rw [e]
  exact ⟨by rw [zcp];simp [Array.getElem?_eq_none (Nat.le_of_not_lt ht)],zdb _⟩

def jgu (pv:Value):FrameMode:=.panicking [{ v:=pv,recovered:=true }]
def jcv (pv:Value):FrameMode:=.panicking [{ v:=pv,recovered:=false }]

structure RecF (P:Program) (G:Hp) (h:FuncId) (caps:Array Value) (hp:Hp) (rs:List Nat) (pv:Value) (ws:List (Nat×Blk)):Prop where
 fn:∃ fn,P.funcs[h]? = some fn
 enter:∀ a w,(callFunc h a).run P w=.ok (.enter h a) w
 back:∀ args W,args.size=caps.size->CallsDIn (Fs P) 0 P h args .returning W λe u' W'=>(∃ v,e=.returned v)/\u'=.returning/\W'=W
 caught:∀ r W,Sat r (dom (rst hp rs)) (rst hp rs) W->Inj r (dom (rst hp rs))->(∀ k,k<100->dom (rst hp rs) k->r k=k) ->
  CallsDIn (Fs P) 0 P h (caps.map (ren r)) (jcv pv) W λe u' W'=>(∃ v,e=.returned v)/\u'=jgu pv/\Turn r (zc7 (dom (rst hp rs)) []) W W' ws []

theorem zkb {h:FuncId} {fn:Func} {id:Nat} {ops:Array Oper} {rest:Code} {caps A:Array Value} {hp:Hp} {rs:List Nat} {pv:Value} {ws:List (Nat×Blk)} {B:Nat} (hGF:zbm G) (hG:∀ k,k<100->hp k=G k)
  (hf:P.funcs[h]? = some fn) (hb:fn.body=some (.seq (.region id ops false) rest)) (hA:A.size=fn.ntmps) (hids:∀ x∈A,zap (dom (rst hp rs)) x)
  (hfirst:∀ (r:Nat->Nat) (c₀:Frame) (cs:List Frame) (W:World) (Q:Exit->Act->List Frame->World->Prop),c₀.mode=jcv pv->Q .normal { tmps:=A.map (ren r),defers:=[] } ({ c₀ with mode:=jgu pv }::cs) W ->
   wpOpsSIn (Fs P) 0 P ops Q (List.range ops.size) { tmps:=caps.map (ren r)++Array.replicate (fn.ntmps - (caps.map (ren r)).size) undef,defers:=[] } (c₀::cs) W)
  (hcl:∀ k b,rst hp rs k=some b->b.ids (dom (rst hp rs))) (hws:∀ k∈zab ws,dom (rst hp rs) k) (once:∀ k b c,(k,b)∈ws->(k,c)∈ws->b=c) (hid:∀ p∈ws,p.2.ids (dom (rst hp rs)))
  (hB:100<=B) (hfree:∀ x,B<=x->rst hp rs x=none)
  (hrest:∀ C:Ctx,C.G=G->C.hp0=rst hp rs->C.Y=some .still->GW P C fn.ntmps [] none rest ⟨λt=>A.getD t undef,rst hp rs,B,0⟩ λe s=>(e=.normal\/e=.ret)/\(znj P fn.results.toList s.ts s.hp).isSome=true/\∀ k,dom (rst hp rs) k->s.hp k=zaw (rst hp rs) ws k)
  (r:Nat->Nat) (W:World) (hsat:Sat r (dom (rst hp rs)) (rst hp rs) W) (hinj:Inj r (dom (rst hp rs))) (hlow:∀ k,k<100->dom (rst hp rs) k->r k=k) :
  CallsDIn (Fs P) 0 P h (caps.map (ren r)) (jcv pv) W λe u' W'=>(∃ v,e=.returned v)/\u'=jgu pv/\Turn r (zc7 (dom (rst hp rs)) []) W W' ws []:=by
 refine callsDIn_of_wpSIn hf hb ⟨fn,hf⟩ λc₀ cs hu=>wpSIn_seq (wpSIn_region (hfirst r c₀ cs W _ hu (wpSIn_of_wpIn rfl ?_)))
 have hi:=zsw (P:=P) (B:=B) (n:=fn.ntmps) (ts:=λt=>A.getD t undef) (a:={ tmps:=A.map (ren r),defers:=[] }) hGF (by simp [hA]) rfl (jas hids) hsat hinj hlow (λk hk=>by simp [rst,hk,hG k hk]) hfree hB
 refine wpIn_mono (hrest _ rfl rfl rfl r _ W hi) ?_
 rintro e a' W' ⟨s',r',⟨he,hr,hhp⟩,hi'⟩
 have hd:=hi'.ri.still rfl
 have ht:=z0d hi'.ri (r:=r) (hp0:=rst hp rs) rfl (λk hk=>⟨hk,rfl⟩) hsat hcl hhp hws once hid
 cases hv:znj P fn.results.toList s'.ts s'.hp with
 | none=>rw [hv] at hr;cases hr
 | some v =>
  have hrun:=zem (fn:=fn) hi'.ri.rel hi'.ri.sat hv
  rcases he with rfl|rfl
  ·exact ⟨hd,_,rfl,_,hrun,⟨_,rfl⟩,rfl,ht.2⟩
  ·exact ⟨hd,_,rfl,_,hrun,⟨_,rfl⟩,rfl,ht.2⟩

theorem zqj {h:FuncId} {fn:Func} {c:Code} {k:Nat} (hf:P.funcs[h]? = some fn) (hb:fn.body=some c)
  (hw:∀ (args:Array Value) (c₀:Frame) (cs:List Frame) (W:World),args.size=k->c₀.mode=.returning ->
   c.wpSIn (Fs P) 0 P (λe a cs' W'=>(e=.normal\/e=.ret)/\a.defers=[]/\cs'=c₀::cs/\W'=W/\∃ v,(results fn a.tmps).run P W=.ok v W) { tmps:=args++Array.replicate (fn.ntmps - args.size) undef,defers:=[] } (c₀::cs) W)
  (args:Array Value) (W:World) (hk:args.size=k):CallsDIn (Fs P) 0 P h args .returning W λe u' W'=>(∃ v,e=.returned v)/\u'=.returning/\W'=W:=by
 refine callsDIn_of_wpSIn hf hb ⟨fn,hf⟩ λc₀ cs hu=>?_
 intro b k' hb hr hF hroom
 obtain ⟨e,a',cs',w',hl,⟨he,hd,rfl,rfl,v,hv⟩,harr⟩:=hw args c₀ cs W hk hu b k' hb hr hF hroom
 refine ⟨e,a',_,_,hl,?_,harr⟩
 have hc:({ c₀ with mode:=.returning }:Frame)=c₀:=by rw [<-hu]
 rcases he with rfl|rfl
 ·exact ⟨hd,.returning,by rw [hc],v,hv,⟨_,rfl⟩,rfl,rfl⟩
 ·exact ⟨hd,.returning,by rw [hc],v,hv,⟨_,rfl⟩,rfl,rfl⟩

theorem RecF.under {h:FuncId} {caps:Array Value} {hp hp':Hp} {rs:List Nat} {pv:Value} {ws:List (Nat×Blk)} (hr:RecF P G h caps hp' rs pv ws) (e:∀ k,(k<100\/k∈rs)->hp' k=hp k):RecF P G h caps hp rs pv ws :=
 ⟨hr.fn,hr.enter,hr.back,by rw [<-zfu e];exact hr.caught⟩

theorem zok {n:Nat} {id t:Nat} {h:FuncId} {cs:Array Operand} {ty1 ty2:TypeId} {ps1 ps2:String} {af2:Array Edge} {Q:Exit->Act->World->Prop} {a:Act} {W:World} (ht:t<a.tmps.size)
  (hQ:Q .normal { a.put (some t) (.func (.func h) #[] (cs.map a.eval)) with defers:=⟨.fn (.func h) (cs.map a.eval),#[]⟩::a.defers } W) :
  (Code.region id [⟨some t,.makeFunc (.func h) #[] cs,ty1,ps1,#[],none⟩,⟨none,.defer ⟨.value (.tmp t),#[],#[]⟩,ty2,ps2,af2,none⟩].toArray false).wpIn (Fw P none) n P Q a W:=by
 refine wpIn_region_lit (wpListIn_plain rfl λK hK=>?_)
 refine ⟨λf hf=>by simp [Oper.about] at hf,?_⟩
 have e:(Fw P none).round=none:=rfl
 rw [e,Oper.semAt_none]
 have hrun:(execOp a.eval ⟨some t,.makeFunc (.func h) #[] cs,ty1,ps1,#[],none⟩).run P W=.ok (.value (.func (.func h) #[] (cs.map a.eval))) W:=by
  simp [execOp,Instr.makeFunc]
 rw [hrun]
 refine hK _ _ (wpListIn_plain rfl λK hK=>?_)
 refine ⟨λf hf=>by simp [Oper.about] at hf,?_⟩
 rw [e,Oper.semAt_none]
 have hev:(a.put (some t) (.func (.func h) #[] (cs.map a.eval))).eval (.tmp t)=.func (.func h) #[] (cs.map a.eval):=by simp [Act.eval,Act.put,ht]
 have hrun:(execOp (a.put (some t) (.func (.func h) #[] (cs.map a.eval))).eval ⟨none,.defer ⟨.value (.tmp t),#[],#[]⟩,ty2,ps2,af2,none⟩).run P W=.ok (.defer ⟨.fn (.func h) (cs.map a.eval),#[]⟩) W:=by
  simp [execOp,resolve,hev,Deferred.ofValue]
 dsimp only
 rw [hrun]
 exact hK _ _ (wpListIn_nil hQ)

inductive REnd
 | ret (v:Value) (ws:List (Nat×Blk))
 | pan (pv:Value) (rs1:List Nat) (ws1:List (Nat×Blk)) (v:Value)
def REnd.res:REnd->Res
 | .ret v ws=>.ret v ws
 | .pan _ _ _ v=>.ret v []
def jmj (P:Program) (G:Hp) (fn:Func) (h:FuncId) (capsD:Array Value) (hp hp1:Hp) (out:REnd) (e:Exit) (s:GS):Prop :=
 match out with
 | .ret v ws=>(e=.normal\/e=.ret)/\znj P fn.results.toList s.ts s.hp=some v/\∀ k,dom hp k->s.hp k=zaw hp ws k
 | .pan pv rs1 ws1 v=>e=.panic [{ v:=pv,recovered:=false }]/\znj P fn.results.toList s.ts (zaw s.hp ws1)=some v/\(∀ k,dom hp1 k->s.hp k=hp1 k)/\RecF P G h capsD hp1 rs1 pv ws1/\(∀ k,dom (rst hp1 rs1) k->dom hp1 k) /\
   (∀ k∈zab ws1,dom (rst hp1 rs1) k/\100<=k/\¬dom hp k)/\(∀ k b,rst hp1 rs1 k=some b->b.ids (dom (rst hp1 rs1)))

theorem zm5 {f h:FuncId} {fn:Func} {R0 rest:Code} {id t:Nat} {cs:Array Operand} {ty1 ty2:TypeId} {ps1 ps2:String} {af2:Array Edge} {args:Array Value} {hp hp1:Hp} {rs:List Nat} {ts1:Nat->Value} {B B1:Nat} {out:REnd} (capsD:Array Value)
  (hGF:zbm G) (hG:∀ k,k<100->hp k=G k) (hf:P.funcs[f]? = some fn)
  (hb:fn.body=some (.seq R0 (.seq (.region id [⟨some t,.makeFunc (.func h) #[] cs,ty1,ps1,#[],none⟩,⟨none,.defer ⟨.value (.tmp t),#[],#[]⟩,ty2,ps2,af2,none⟩].toArray false) rest))) (ht:t<fn.ntmps)
  (hcall:∀ a w,(callFunc f a).run P w=.ok (.enter f a) w) (hback:∃ pv hp rs ws,RecF P G h capsD hp rs pv ws)
  (ha:∀ x∈args,zap (dom (rst hp rs)) x) (hcl:∀ k b,rst hp rs k=some b->b.ids (dom (rst hp rs))) (hfit:out.res.fits hp rs) (hn:args.size<=fn.ntmps) (hB:100<=B) (hfree:∀ x,B<=x->rst hp rs x=none)
  (hR0:∀ C:Ctx,C.G=G->C.hp0=rst hp rs->C.Y=some .still->GW P C fn.ntmps [] none R0 ⟨λt=>args.getD t undef,rst hp rs,B,0⟩ λe s=>e=.normal/\s=⟨ts1,hp1,B1,0⟩)
  (hsub:∀ k,dom (rst hp rs) k->hp1 k=rst hp rs k)
  (hcs:∀ o∈cs.toList,okT ts1 o/\∃ t',o=.tmp t') (hcd:cs.map (gev ts1)=capsD) (hpl:∀ x∈capsD,zbs x=true)
  (hrest:∀ (C:Ctx) (d:List Deferred),C.G=G->C.hp0=hp1->C.Y=some .still->GW P C fn.ntmps d none rest ⟨upd ts1 t (.func (.func h) #[] capsD),hp1,B1,0⟩ (jmj P G fn h capsD (rst hp rs) hp1 out)) :
  Fun P G f args hp rs out.res:=by
 refine ⟨hcall,ha,hcl,hfit,λr W hgok hsat hinj hlow=>callsIn_of_wp_defers hf hb ⟨fn,hf⟩ ?_⟩
 have hi:=zsw (P:=P) (B:=B) (n:=fn.ntmps) (ts:=λt=>args.getD t undef) (a:={ tmps:=args.map (ren r)++Array.replicate (fn.ntmps - (args.map (ren r)).size) undef,defers:=[] }) hGF (by simp;omega) rfl ?_ hsat hinj hlow
  (λk hk=>by simp [rst,hk,hG k hk]) hfree hB
 ·refine wpIn_seq (wpIn_mono (hR0 _ rfl rfl rfl r _ W hi) ?_)
  rintro e a1 W1 ⟨s1,r1,⟨rfl,rfl⟩,hi1⟩
  have hd1:a1.defers=[]:=hi1.ri.still rfl
  have hev:cs.map a1.eval=capsD.map (ren r1):=by
   rw [<-hcd,Array.map_map]
   refine Array.map_congr_left λo ho=>?_
   obtain ⟨h1,t',rfl⟩:=hcs o (by simpa using ho)
   have h2:nj (ts1 t'):=h1
   have h3:=(hi1.ri.rel t').resolve_left (λe=>by dsimp only at e;rw [e] at h2;exact absurd h2 (by simp [nj,zbz]))
   exact h3.1
  have hids:∀ x∈capsD,zap (dom hp1) x:=λx hx=>by
   rw [<-hcd] at hx
   obtain ⟨o,ho,rfl⟩:=Array.mem_map.1 hx
   obtain ⟨h1,t',rfl⟩:=hcs o (by simpa using ho)
   have h2:nj (ts1 t'):=h1
   have h3:=(hi1.ri.rel t').resolve_left (λe=>by dsimp only at e;rw [e] at h2;exact absurd h2 (by simp [nj,zbz]))
   exact h3.2
  refine wpIn_seq (zok (by rw [hi1.ri.size];exact ht) ?_)
  rw [hev,hd1]
  have hclo:ren r1 (.func (.func h) #[] capsD)=.func (.func h) #[] (capsD.map (ren r1)):=by
   have e:capsD.map (zao r1)=capsD.map (ren r1):=Array.map_congr_left λx hx=>(zc8 (hpl x hx)).symm
   simp [ren,zas,zan,e]
  have hi2:GI P ⟨zff W (imO r (rst hp rs)),hp1,r1,G,some .still⟩ fn.ntmps [⟨.fn (.func h) (capsD.map (ren r1)),#[]⟩] r1 ⟨upd ts1 t (.func (.func h) #[] capsD),hp1,B1,0⟩
    { a1.put (some t) (.func (.func h) #[] (capsD.map (ren r1))) with defers:=[⟨.fn (.func h) (capsD.map (ren r1)),#[]⟩] } W1:=by
   have:=hi1.ri.put (dst:=some t) (v:=.func (.func h) #[] capsD) (λd hd=>by cases hd;exact ht) ⟨by simp,λx hx=>(zcb (hpl x hx)).1 (hids x hx)⟩
   rw [hclo] at this
   obtain ⟨S,ms,h1,h2,h3,h4,h5⟩:=hi1.ri.ext
   exact ⟨⟨this.size,this.rel,this.sat,this.inj,⟨S,[],h1,h2,h3,⟨rfl,List.nodup_nil⟩,by simp⟩,λi hi=>⟨hi,rfl⟩,this.glob,this.low⟩,hi1.free,hi1.low,hGF,λy hy=>by cases hy;intro c x S W _ hx;simp [YG.still] at hx⟩
  refine wpIn_mono (hrest _ _ rfl rfl rfl r1 _ W1 hi2) ?_
  rintro e a' W' ⟨s',r',hpost,hi'⟩
  have hd:=hi'.ri.still rfl
  have hag:∀ k,dom (rst hp rs) k->dom hp1 k/\r1 k=r k:=λk hk=>⟨by unfold dom at hk |-;rw [hsub k hk];exact hk,(hi1.ri.keep k hk).2⟩
  have hlead:∀ (W:World) g,(Target.fn (.func h) (capsD.map (ren r1))).leads P W #[]=some g->(Fw P none).fn g:=λW g hg=>by
   simp [Target.leads] at hg
   subst hg
   obtain ⟨_,_,_,_,hr⟩:=hback
   exact hr.fn
  have hinv:∀ W:World,(invoke (.fn (.func h) (capsD.map (ren r1))) #[]).run P W=.ok (.enter h (capsD.map (ren r1))) W:=λW=>by
   obtain ⟨_,_,_,_,hr⟩:=hback
   simp [invoke,hr.enter]
  cases out with
  | ret v ws =>
   obtain ⟨he,hr,hhp⟩:=hpost
   have key:LeavesIn (Fw P none) 0 P fn a'.tmps ((Res.ret v ws).holds r (dom (rst hp rs)) W) a'.defers .returning W':=by
    rw [hd]
    refine leavesIn_cons (by simp) (λh=>by cases h) (hinv W') (hlead W') ?_
    obtain ⟨_,_,_,_,hr'⟩:=hback
    refine CallsDIn.mono (hr'.back _ W' (by simp)) ?_
    rintro e u' W'' ⟨⟨v',rfl⟩,rfl,rfl⟩
    have hrun:=zem (fn:=fn) hi'.ri.rel hi'.ri.sat hr
    have hend:=z0d hi'.ri (r:=r) (hp0:=rst hp rs) rfl hag hsat hcl hhp (λk hk=>by
     have:=hfit.2.1 k hk;unfold dom rst at *;simp [this.1];exact this.2.1) hfit.2.2.1 hfit.2.2.2
    rw [zc6 (λk hk=>hend.1 k hk) hfit.1] at hrun
    exact ⟨_,hrun,rfl,hend.2⟩
   rcases he with rfl|rfl<;>exact key
  | pan pv rs1 ws1 v =>
   obtain ⟨rfl,hr,hhp,hrec,hd1',hk1,hcl1⟩:=hpost
   show LeavesIn (Fw P none) 0 P fn a'.tmps ((Res.ret v []).holds r (dom (rst hp rs)) W) a'.defers (.panicking _) W'
   rw [hd]
   refine leavesIn_cons (by simp) (λh=>by cases h) (hinv W') (hlead W') ?_
   have hr1:∀ k,dom hp1 k->r' k=r1 k:=λk hk=>(hi'.ri.keep k hk).2
   have hsub1:∀ k,dom (rst hp1 rs1) k->s'.hp k=rst hp1 rs1 k:=λk hk=>by
    rw [hhp k (hd1' k hk)]
    unfold dom rst at hk
    unfold rst
    split
    ·rfl
    ·rename_i hh;simp [hh] at hk
   have hcap:capsD.map (ren r1)=capsD.map (ren r'):=Array.map_congr_left λx hx=>zc6 (λk hk=>(hr1 k hk).symm) (hids x hx)
   rw [hcap]
   have dsub:∀ k,dom (rst hp1 rs1) k->dom s'.hp k:=λk hk=>by unfold dom;rw [hsub1 k hk];exact hk
   refine CallsDIn.mono (hrec.caught r' W' (λk b hk=>?_) (λk l hk hl=>hi'.ri.inj k l (dsub k hk) (dsub l hl)) (λk hk hk'=>hi'.ri.low k hk (dsub k hk'))) ?_
   ·refine ⟨(hi'.ri.sat k b ?_).1,hcl1 k b hk⟩
    rw [hsub1 k (by unfold dom;rw [hk];simp)];exact hk
   rintro e u' W'' ⟨⟨v',rfl⟩,rfl,hturn⟩
   have hset:settle (jgu pv)=.returning:=rfl
   show LeavesIn _ _ _ _ _ _ [] (settle (jgu pv)) W''
   rw [hset]
   have hri:RI ⟨zff W (imO r (rst hp rs)),hp1,r1,G,some .still⟩ fn.ntmps [⟨.fn (.func h) (capsD.map (ren r1)),#[]⟩] r' (zbl s'.ts none undef) (zaw s'.hp (ws1++[])) s'.yc (a'.put none (ren r' undef)) W'':=by
    refine hi'.ri.after (e:=⟨undef,[],ws1,[],none,false⟩) (λ_ h=>by cases h) (λ_ _=>rfl) (zdb _) ?_ (λk hk=>⟨dsub k (hk1 k hk).1,(hk1 k hk).2.1⟩) (by simp [zab])
    have mono:∀ k,zc7 (dom (rst hp1 rs1)) [] k->zc7 (dom s'.hp) [] k:=λk hk=>hk.imp (dsub k) (λh=>h)
    exact ⟨hturn.os,hturn.tape,hturn.output,hturn.size,hturn.same,λp hp1=>⟨(hturn.has p hp1).1,Blk.ids_mono mono (hturn.has p hp1).2⟩,hturn.fresh,hturn.apart⟩
   simp only [List.append_nil] at hri
   have hrun:=zem (fn:=fn) hri.rel hri.sat hr
   have hend:=z0d hri (r:=r) (hp0:=rst hp rs) (ws:=[]) rfl hag hsat hcl (λk hk=>by
    simp only [zaw]
    rw [zbb (λhm=>(hk1 k hm).2.2 hk),hhp k (hag k hk).1,hsub k hk]) (by simp [zab]) (by simp) (by simp)
   rw [zc6 (λk hk=>hend.1 k hk) hfit.1] at hrun
   exact ⟨_,hrun,rfl,hend.2⟩
 ·intro t
  right
  dsimp only
  by_cases ht:t<args.size
  ·have hm:args[t]∈args:=Array.getElem_mem ht
   have e:args.getD t undef=args[t]:=by simp [Array.getD,ht]
   rw [e]
   refine ⟨?_,ha _ hm⟩
   have:t<(args.map (ren r)).size:=by simpa using ht
   simp [Array.getElem?_append_left this,ht]
  ·have e:args.getD t undef=undef:=by simp [Array.getElem?_eq_none (Nat.le_of_not_lt ht)]
   rw [e]
   refine ⟨?_,zdb _⟩
   rw [zcp]
   simp only [Array.getD_eq_getD_getElem?]
   rw [Array.getElem?_append_right (by simpa using Nat.le_of_not_lt ht),Array.getElem?_replicate]
   split<;>rfl
end
section
variable {P:Program} {G:Hp}
theorem zm6 {ρ:Nat->Nat} {D D':Nat->Prop} (h:∀ k,D k->D' (ρ k)) {v:Value} (hv:zau D v):zau D' (zas ρ v):=by
 cases v with
 | agg cs =>
  intro x hx
  obtain ⟨y,hy,rfl⟩:=Array.mem_map.1 hx
  exact zkj h (hv y hy)
 | func f a b=>exact zkj (v:=.func f a b) h hv
 | iface t v=>exact zkj (v:=.iface t v) h hv
 | pointer p=>cases p<;>first|exact h _ hv|trivial
 | slice p _ _=>cases p<;>first|exact h _ hv|trivial
 | map p=>cases p<;>first|exact h _ hv|trivial
 | _=>trivial
theorem zfy {ρ:Nat->Nat} {D D':Nat->Prop} (h:∀ k,D k->D' (ρ k)) {v:Value} (hv:zap D v):zap D' (ren ρ v):=by
 cases v with
 | tuple vs =>
  intro x hx
  obtain ⟨y,hy,rfl⟩:=Array.mem_map.1 hx
  exact zm6 h (hv y hy)
 | agg cs=>exact zm6 (v:=.agg cs) h hv
 | func f a b=>exact zm6 (v:=.func f a b) h hv
 | iface t v=>exact zm6 (v:=.iface t v) h hv
 | pointer p=>cases p<;>first|exact h _ hv|trivial
 | slice p _ _=>cases p<;>first|exact h _ hv|trivial
 | map p=>cases p<;>first|exact h _ hv|trivial
 | _=>trivial
theorem Rn.bflat {ρ:Nat->Nat} {hp:Hp} (hGF:zbm G) (hG:∀ k,k<100->hp k=G k) {k:Nat} {b:Blk} (hk:k<100) (hb:hp k=some b):b.rn ρ=b:=by
 have hg:G k=some b:=(hG k hk).symm.trans hb
 exact Blk.rn_flat (hGF k b hg).2
theorem Rn.back {ρ:Nat->Nat} {hp hp':Hp} {rs:List Nat} (hGF:zbm G) (hG:∀ k,k<100->hp k=G k) (h:Rn ρ hp hp' rs) (k:Nat) (b:Blk) (hb:rst hp' (rs.map ρ) k=some b):∃ q c,rst hp rs q=some c/\ρ q=k/\b=c.rn ρ:=by
 unfold rst at hb
 by_cases h1:k<100
 ·simp only [h1,true_or,if_true] at hb
  have hl:=h.low k h1
  rw [hl.2] at hb
  exact ⟨k,b,by simp [rst,h1,hb],hl.1,(Rn.bflat hGF hG h1 hb).symm⟩
 ·by_cases hm:k∈rs.map ρ
  ·obtain ⟨q,hq,rfl⟩:=List.mem_map.1 hm
   simp only [hm,or_true,if_true] at hb
   have hq1:100<=q:=by
    by_cases hq1:100<=q
    ·exact hq1
    ·exact absurd (by rw [(h.low q (by omega)).1];omega) h1
   obtain ⟨c,e1,e2⟩:=h.at' q hq hq1
   rw [e2] at hb;cases hb
   exact ⟨q,c,by simp [rst,hq,e1],rfl,rfl⟩
  ·simp [h1,hm] at hb
theorem Rn.mem {hp:Hp} {rs:List Nat} {k:Nat} (hk:dom (rst hp rs) k) (h1:100<=k):k∈rs:=by
 unfold dom rst at hk
 by_cases hm:k∈rs
 ·exact hm
 ·simp [hm] at hk;omega
theorem Rn.sat {ρ:Nat->Nat} {hp hp':Hp} {rs:List Nat} (hGF:zbm G) (hG:∀ k,k<100->hp k=G k) (h:Rn ρ hp hp' rs) (hcl:∀ k b,rst hp rs k=some b->b.ids (dom (rst hp rs))) {r:Nat->Nat} {W:World}
  (hsat:Sat r (dom (rst hp' (rs.map ρ))) (rst hp' (rs.map ρ)) W) (hinj:Inj r (dom (rst hp' (rs.map ρ)))) (hlow:∀ k,k<100->dom (rst hp' (rs.map ρ)) k->r k=k) :
  Sat (λk=>r (ρ k)) (dom (rst hp rs)) (rst hp rs) W/\Inj (λk=>r (ρ k)) (dom (rst hp rs))/\∀ k,k<100->dom (rst hp rs) k->r (ρ k)=k:=by
 refine ⟨λk b hk=>⟨?_,hcl k b hk⟩,λk l hk hl e=>?_,λk hk hd=>?_⟩
 ·have hd:dom (rst hp rs) k:=by unfold dom;rw [hk];simp
  have hd':=h.dom1 hd
  unfold dom at hd'
  cases hb:rst hp' (rs.map ρ) (ρ k) with
  | none=>exact absurd hb hd'
  | some b' =>
   have e:b'=b.rn ρ:=by
    unfold rst at hb hk
    by_cases h1:k<100
    ·have hl:=h.low k h1
     simp only [h1,true_or,if_true] at hk
     rw [hl.1] at hb
     simp only [h1,true_or,if_true] at hb
     rw [hl.2,hk] at hb
     cases hb
     exact (Rn.bflat hGF hG h1 hk).symm
    ·have hm:k∈rs:=by
      by_cases hm:k∈rs
      ·exact hm
      ·simp [h1,hm] at hk
     simp only [hm,or_true,if_true] at hk
     obtain ⟨c,e1,e2⟩:=h.at' k hm (by omega)
     rw [hk] at e1;cases e1
     have hm':ρ k∈rs.map ρ:=List.mem_map.2 ⟨k,hm,rfl⟩
     simp only [hm',or_true,if_true] at hb
     rw [e2] at hb;cases hb;rfl
   have:=(hsat _ b' hb).1
   rw [e,Blk.rn_obj] at this
   exact this
 ·have e2:=hinj _ _ (h.dom1 hk) (h.dom1 hl) e
  by_cases h1:k<100
  ·by_cases h2:l<100
   ·rw [(h.low k h1).1,(h.low l h2).1] at e2;exact e2
   ·have:=h.big l (Rn.mem hl (by omega)) (by omega)
    rw [(h.low k h1).1] at e2;omega
  ·by_cases h2:l<100
   ·have:=h.big k (Rn.mem hk (by omega)) (by omega)
    rw [(h.low l h2).1] at e2;omega
   ·exact h.inj k (Rn.mem hk (by omega)) l (Rn.mem hl (by omega)) (by omega) (by omega) e2
 ·have:=h.dom1 hd
  rw [(h.low k hk).1] at this |-
  exact hlow k hk this
def rnL (ρ:Nat->Nat) (ws:List (Nat×Blk)):List (Nat×Blk):=ws.map λp=>(ρ p.1,p.2.rn ρ)
theorem zjz {ρ:Nat->Nat} {ws:List (Nat×Blk)} {k:Nat} (h:k∈zab (rnL ρ ws)):∃ q∈zab ws,ρ q=k:=by
 simp only [zab,rnL,List.map_map,List.mem_map,Function.comp] at h |-
 obtain ⟨p,hp,rfl⟩:=h
 exact ⟨p.1,⟨p,hp,rfl⟩,rfl⟩
theorem Fun.rn {f:FuncId} {args:Array Value} {hp hp':Hp} {rs:List Nat} {v:Value} {ws:List (Nat×Blk)} (ρ:Nat->Nat) (hGF:zbm G) (hG:∀ k,k<100->hp k=G k) (h:Rn ρ hp hp' rs) (hi:Fun P G f args hp rs (.ret v ws)) :
  Fun P G f (args.map (ren ρ)) hp' (rs.map ρ) (.ret (ren ρ v) (rnL ρ ws)):=by
 refine ⟨hi.enter,λx hx=>?_,λk b hb=>?_,⟨zfy (λk hk=>h.dom1 hk) hi.fits.1,λk hk=>?_,λk b c h1 h2=>?_,λp hp1=>?_⟩,λr W hgok hsat hinj hlow=>?_⟩
 ·obtain ⟨y,hy,rfl⟩:=Array.mem_map.1 hx
  exact zfy (λk hk=>h.dom1 hk) (hi.ids y hy)
 ·obtain ⟨q,c,h1,rfl,rfl⟩:=h.back hGF hG k b hb
  exact Blk.ids_rn (λk hk=>h.dom1 hk) (hi.closed q c h1)
 ·obtain ⟨q,hq,rfl⟩:=zjz hk
  have h1:=hi.fits.2.1 q hq
  obtain ⟨c,e1,e2⟩:=h.at' q h1.1 h1.2.2
  exact ⟨List.mem_map.2 ⟨q,h1.1,rfl⟩,by unfold dom;rw [e2];simp,h.big q h1.1 h1.2.2⟩
 ·simp only [rnL,List.mem_map,Prod.mk.injEq] at h1 h2
  obtain ⟨p,hp1,e1,rfl⟩:=h1
  obtain ⟨q,hq1,e2,rfl⟩:=h2
  have k1:=hi.fits.2.1 p.1 (zah.2 ⟨p,hp1,rfl⟩)
  have k2:=hi.fits.2.1 q.1 (zah.2 ⟨q,hq1,rfl⟩)
  have e3:=h.inj p.1 k1.1 q.1 k2.1 k1.2.2 k2.2.2 (e1.trans e2.symm)
  have e4:=hi.fits.2.2.1 p.1 p.2 q.2 hp1 (by rw [e3];exact hq1)
  rw [e4]
 ·simp only [rnL,List.mem_map] at hp1
  obtain ⟨p,hp1,rfl⟩:=hp1
  exact Blk.ids_rn (λk hk=>h.dom1 hk) (hi.fits.2.2.2 p hp1)
 ·obtain ⟨s1,s2,s3⟩:=h.sat hGF hG hi.closed hsat hinj hlow
  have hrun:=hi.run (λk=>r (ρ k)) W hgok s1 s2 s3
  have ha:(args.map (ren ρ)).map (ren r)=args.map (ren λk=>r (ρ k)):=by
   rw [Array.map_map]
   exact Array.map_congr_left λx _=>zc5 r ρ x
  rw [ha]
  refine hrun.mono λe W' ⟨he,ht⟩=>⟨?_,ht.os,ht.tape,ht.output,ht.size,λk hk hnw=>ht.same k hk λp hp1=>?_,λp hp1=>?_,by simp,by simp⟩
  ·rw [he,zc5]
  ·exact hnw (ρ p.1,p.2.rn ρ) (by simp only [rnL,List.mem_map];exact ⟨p,hp1,rfl⟩)
  ·simp only [List.append_nil,rnL,List.mem_map] at hp1
   obtain ⟨p,hp1,rfl⟩:=hp1
   have h1:=ht.has p (by simpa using hp1)
   exact ⟨by rw [Blk.rn_obj];exact h1.1,Blk.ids_rn (D:=zc7 (dom (rst hp rs)) []) (λk hk=>by rw [zh0] at hk |-;exact h.dom1 hk) h1.2⟩
theorem Fun.rnp {f:FuncId} {args:Array Value} {hp hp':Hp} {rs:List Nat} {pv:Value} (ρ:Nat->Nat) (hGF:zbm G) (hG:∀ k,k<100->hp k=G k) (h:Rn ρ hp hp' rs) (hi:Fun P G f args hp rs (.pan pv)) :
  Fun P G f (args.map (ren ρ)) hp' (rs.map ρ) (.pan pv):=by
 refine ⟨hi.enter,λx hx=>?_,λk b hb=>?_,trivial,λr W hgok hsat hinj hlow=>?_⟩
 ·obtain ⟨y,hy,rfl⟩:=Array.mem_map.1 hx
  exact zfy (λk hk=>h.dom1 hk) (hi.ids y hy)
 ·obtain ⟨q,c,h1,rfl,rfl⟩:=h.back hGF hG k b hb
  exact Blk.ids_rn (λk hk=>h.dom1 hk) (hi.closed q c h1)
 ·obtain ⟨s1,s2,s3⟩:=h.sat hGF hG hi.closed hsat hinj hlow
  have hrun:=hi.run (λk=>r (ρ k)) W hgok s1 s2 s3
  have ha:(args.map (ren ρ)).map (ren r)=args.map (ren λk=>r (ρ k)):=by
   rw [Array.map_map]
   exact Array.map_congr_left λx _=>zc5 r ρ x
  rw [ha]
  exact hrun
theorem Ret.up {G':Hp} {f:FuncId} {args:Array Value} {v:Value} (h:Ret P G f args v) (hg:∀ W,GOK G' W->GOK G W):Ret P G' f args v:=⟨h.1,h.2.1,h.2.2.1,λW hW=>h.2.2.2 W (hg W hW)⟩
theorem zli.up {G':Hp} {f:FuncId} {args:Array Value} {o:Out} (h:zli P G f args o) (hg:∀ W,GOK G' W->GOK G W):zli P G' f args o:=⟨h.1,h.2.1,h.2.2.1,λW hW=>h.2.2.2 W (hg W hW)⟩
end
structure FunS (P:Program) (G:Hp) (f:FuncId) (args:Array Value) (hp:Hp) (rs:List Nat) (R:Value->List (Nat×Blk)->Prop):Prop where
 enter:∀ a w,(callFunc f a).run P w=.ok (.enter f a) w
 ids:∀ x∈args,zap (dom (rst hp rs)) x
 closed:∀ k b,rst hp rs k=some b->b.ids (dom (rst hp rs))
 fits:∀ v ns,R v ns->zap (zc7 (dom (rst hp rs)) ns) v/\(∀ k∈zab ns,100<=k/\¬dom (rst hp rs) k)/\(∀ k b c,(k,b)∈ns->(k,c)∈ns->b=c)/\∀ p∈ns,p.2.ids (zc7 (dom (rst hp rs)) ns)
 run:∀ r W,GOK G W->Sat r (dom (rst hp rs)) (rst hp rs) W->Inj r (dom (rst hp rs))->(∀ k,k<100->dom (rst hp rs) k->r k=k) ->
  zef P f (args.map (ren r)) W λe W'=>∃ v ns r',R v ns/\(∀ k,dom (rst hp rs) k->r' k=r k)/\e=.returned (ren r' v)/\Turn r' (zc7 (dom (rst hp rs)) ns) W W' [] ns
section
variable {P:Program} {G:Hp}
theorem FunS.under {f:FuncId} {args:Array Value} {hp hp':Hp} {rs:List Nat} {R:Value->List (Nat×Blk)->Prop} (h:FunS P G f args hp' rs R) (e:∀ k,(k<100\/k∈rs)->hp' k=hp k):FunS P G f args hp rs R:=by
 have er:rst hp' rs=rst hp rs:=zfu e
 exact ⟨h.enter,by rw [<-er];exact h.ids,by rw [<-er];exact h.closed,by rw [<-er];exact h.fits,by rw [<-er];exact h.run⟩
def RR (ρ:Nat->Nat) (R:Value->List (Nat×Blk)->Prop) (v':Value) (ns':List (Nat×Blk)):Prop:=∃ v ns,R v ns/\v'=ren ρ v/\ns'=rnL ρ ns
theorem zjk {ρ:Nat->Nat} {ns:List (Nat×Blk)} {k:Nat} (h:k∈zab ns):ρ k∈zab (rnL ρ ns):=by
 obtain ⟨p,hp,rfl⟩:=zah.1 h
 exact zah.2 ⟨(ρ p.1,p.2.rn ρ),List.mem_map.2 ⟨p,hp,rfl⟩,rfl⟩
theorem FunS.rn {f:FuncId} {args:Array Value} {hp hp':Hp} {rs:List Nat} {R:Value->List (Nat×Blk)->Prop} (ρ:Nat->Nat) (hGF:zbm G) (hG:∀ k,k<100->hp k=G k) (h:Rn ρ hp hp' rs) (hi:FunS P G f args hp rs R)
  (hnew:∀ v ns,R v ns->∀ k∈zab ns,100<=ρ k/\¬dom (rst hp' (rs.map ρ)) (ρ k)) (hnj:∀ v ns,R v ns->∀ k∈zab ns,∀ l∈zab ns,ρ k=ρ l->k=l) :
  FunS P G f (args.map (ren ρ)) hp' (rs.map ρ) (RR ρ R):=by
 have hext:∀ ns,∀ k,zc7 (dom (rst hp rs)) ns k->zc7 (dom (rst hp' (rs.map ρ))) (rnL ρ ns) (ρ k):=λns k hk=>hk.elim (λh1=>.inl (h.dom1 h1)) (λh1=>.inr (zjk h1))
 refine ⟨hi.enter,λx hx=>?_,λk b hb=>?_,λv' ns' hR'=>?_,λr W hgok hsat hinj hlow=>?_⟩
 ·obtain ⟨y,hy,rfl⟩:=Array.mem_map.1 hx
  exact zfy (λk hk=>h.dom1 hk) (hi.ids y hy)
 ·obtain ⟨q,c,h1,rfl,rfl⟩:=h.back hGF hG k b hb
  exact Blk.ids_rn (λk hk=>h.dom1 hk) (hi.closed q c h1)
 ·obtain ⟨v,ns,hR,rfl,rfl⟩:=hR'
  obtain ⟨f1,f2,f3,f4⟩:=hi.fits v ns hR
  refine ⟨zfy (hext ns) f1,λk hk=>?_,λk b c h1 h2=>?_,λp hp1=>?_⟩
  ·obtain ⟨q,hq,rfl⟩:=zjz hk
   exact hnew v ns hR q hq
  ·simp only [rnL,List.mem_map,Prod.mk.injEq] at h1 h2
   obtain ⟨p,hp1,e1,rfl⟩:=h1
   obtain ⟨q,hq1,e2,rfl⟩:=h2
   have e3:=hnj v ns hR p.1 (zah.2 ⟨p,hp1,rfl⟩) q.1 (zah.2 ⟨q,hq1,rfl⟩) (e1.trans e2.symm)
   rw [f3 p.1 p.2 q.2 hp1 (by rw [e3];exact hq1)]
  ·simp only [rnL,List.mem_map] at hp1
   obtain ⟨p,hp1,rfl⟩:=hp1
   exact Blk.ids_rn (hext ns) (f4 p hp1)
 ·obtain ⟨s1,s2,s3⟩:=h.sat hGF hG hi.closed hsat hinj hlow
  have hrun:=hi.run (λk=>r (ρ k)) W hgok s1 s2 s3
  have ha:(args.map (ren ρ)).map (ren r)=args.map (ren λk=>r (ρ k)):=by
   rw [Array.map_map]
   exact Array.map_congr_left λx _=>zc5 r ρ x
  rw [ha]
  refine hrun.mono λe W' ⟨v,ns,r1,hR,hr1,he,ht⟩=>?_
  obtain ⟨f1,f2,f3,f4⟩:=hi.fits v ns hR
  let r2:Nat->Nat:=λk'=>match (zab ns).find? (λk=>ρ k==k') with|some k=>r1 k|none=>r k'
  have e1:∀ k∈zab ns,r2 (ρ k)=r1 k:=λk hk=>by
   show (match (zab ns).find? (λl=>ρ l==ρ k) with|some k=>r1 k|none=>r (ρ k))=r1 k
   cases hf:(zab ns).find? (λl=>ρ l==ρ k) with
   | none=>have:=List.find?_eq_none.1 hf k hk;simp at this
   | some l =>
    have h1:=List.find?_some hf
    have h2:=List.mem_of_find?_eq_some hf
    simp only [beq_iff_eq] at h1
    rw [hnj v ns hR l h2 k hk h1]
  have e2:∀ k,dom (rst hp' (rs.map ρ)) k->r2 k=r k:=λk hk=>by
   show (match (zab ns).find? (λl=>ρ l==k) with|some k=>r1 k|none=>r k)=r k
   cases hf:(zab ns).find? (λl=>ρ l==k) with
   | none=>rfl
   | some l =>
    have h1:=List.find?_some hf
    have h2:=List.mem_of_find?_eq_some hf
    simp only [beq_iff_eq] at h1
    exact absurd hk (h1▸(hnew v ns hR l h2).2)
  have e3:∀ k,zc7 (dom (rst hp rs)) ns k->r2 (ρ k)=r1 k:=λk hk=>by
   by_cases hm:k∈zab ns
   ·exact e1 k hm
   ·have hd:=hk.resolve_right hm
    rw [e2 _ (h.dom1 hd),hr1 k hd]
  refine ⟨ren ρ v,rnL ρ ns,r2,⟨v,ns,hR,rfl,rfl⟩,e2,?_,ht.os,ht.tape,ht.output,ht.size,λk hk _=>ht.same k hk (by simp),λp hp1=>?_,λp hp1=>?_,λp hp1 q hq1 hpq=>?_⟩
  ·rw [he,zc5,zc6 e3 f1]
  ·simp only [List.nil_append,rnL,List.mem_map] at hp1
   obtain ⟨p,hp1,rfl⟩:=hp1
   have hh:=ht.has p (by simpa using hp1)
   refine ⟨?_,Blk.ids_rn (hext ns) hh.2⟩
   rw [Blk.rn_obj,Blk.obj_congr e3 hh.2]
   show W'.heap[r2 (ρ p.1)]? = _
   rw [e1 _ (zah.2 ⟨p,hp1,rfl⟩)]
   exact hh.1
  ·simp only [rnL,List.mem_map] at hp1
   obtain ⟨p,hp1,rfl⟩:=hp1
   show W.heap.size<=r2 (ρ p.1)
   rw [e1 _ (zah.2 ⟨p,hp1,rfl⟩)]
   exact ht.fresh p hp1
  ·simp only [rnL,List.mem_map] at hp1 hq1
   obtain ⟨p,hp1,rfl⟩:=hp1
   obtain ⟨q,hq1,rfl⟩:=hq1
   have k1:=zah.2 ⟨p,hp1,rfl⟩
   have k2:=zah.2 ⟨q,hq1,rfl⟩
   have hpq':r2 (ρ p.1)=r2 (ρ q.1):=hpq
   rw [e1 _ k1,e1 _ k2] at hpq'
   have:=ht.apart p hp1 q hq1 hpq'
   show ρ p.1=ρ q.1
   rw [this]
theorem zzg {f:FuncId} {fn:Func} {c:Code} {args:Array Value} {hp:Hp} {rs:List Nat} {R:Value->List (Nat×Blk)->Prop} {B:Nat} (hGF:zbm G) (hG:∀ k,k<100->hp k=G k) (hf:P.funcs[f]? = some fn) (hb:fn.body=some c) (hcall:∀ a w,(callFunc f a).run P w=.ok (.enter f a) w)
  (ha:∀ x∈args,zap (dom (rst hp rs)) x) (hcl:∀ k b,rst hp rs k=some b->b.ids (dom (rst hp rs)))
  (hfit:∀ v ns,R v ns->zap (zc7 (dom (rst hp rs)) ns) v/\(∀ k∈zab ns,100<=k/\¬dom (rst hp rs) k)/\(∀ k b c,(k,b)∈ns->(k,c)∈ns->b=c)/\∀ p∈ns,p.2.ids (zc7 (dom (rst hp rs)) ns))
  (hn:args.size<=fn.ntmps) (hB:100<=B) (hfree:∀ x,B<=x->rst hp rs x=none)
  (h:∀ C:Ctx,C.G=G->C.hp0=rst hp rs->C.Y=none->GW P C fn.ntmps [] none c ⟨λt=>args.getD t undef,rst hp rs,B,0⟩ λe s=>(e=.normal\/e=.ret)/\(∀ k,dom (rst hp rs) k->s.hp k=rst hp rs k) /\
   ∃ v ns ρ,R v ns/\(∀ k,dom (rst hp rs) k->ρ k=k)/\(∀ p∈ns,¬dom (rst hp rs) (ρ p.1)/\100<=ρ p.1)/\(∀ p∈ns,∀ q∈ns,ρ p.1=ρ q.1->p.1=q.1)/\znj P fn.results.toList s.ts s.hp=some (ren ρ v)/\∀ p∈ns,s.hp (ρ p.1)=some (p.2.rn ρ)):FunS P G f args hp rs R:=by
 refine ⟨hcall,ha,hcl,hfit,λr W hgok hsat hinjr hlow=>callsIn_of_wp_marks hf hb ⟨fn,hf⟩ ?_⟩
 have ltW:∀ k,dom (rst hp rs) k->r k<W.heap.size:=λk hk=>by
  unfold dom at hk
  cases hb:rst hp rs k with
  | none=>exact absurd hb hk
  | some b=>exact (Array.getElem?_eq_some_iff.1 (hsat k b hb).1).1
 let im:Nat->Prop:=λj=>∃ i,dom (rst hp rs) i/\r i=j
 let C:Ctx:=⟨zff W im,rst hp rs,r,G,none⟩
 have hi:GI P C fn.ntmps [] r ⟨λt=>args.getD t undef,rst hp rs,B,0⟩ { tmps:=args.map (ren r)++Array.replicate (fn.ntmps - (args.map (ren r)).size) undef,defers:=[] } W:=by
  refine ⟨⟨by simp;omega,λt=>?_,hsat,hinjr,⟨λk=>k<W.heap.size/\¬im k,[],⟨λ_=>Iff.rfl,rfl,rfl,rfl,Nat.le_refl _,λ_ _=>rfl⟩,λk hk=>hk.1,λi hi _ hS=>hS.2 ⟨i,hi,rfl⟩,⟨rfl,List.nodup_nil⟩,by simp⟩,
   λi hi=>⟨hi,rfl⟩,λk hk=>?_,hlow⟩,hfree,hB,hGF,λy hy=>by cases hy⟩
  ·right
   dsimp only
   by_cases ht:t<args.size
   ·have hm:args[t]∈args:=Array.getElem_mem ht
    have e:args.getD t undef=args[t]:=by simp [Array.getD,ht]
    rw [e]
    refine ⟨?_,ha _ hm⟩
    have:t<(args.map (ren r)).size:=by simpa using ht
    simp [Array.getElem?_append_left this,ht]
   ·have e:args.getD t undef=undef:=by simp [Array.getElem?_eq_none (Nat.le_of_not_lt ht)]
    rw [e]
    refine ⟨?_,zdb _⟩
    rw [zcp]
    simp only [Array.getD_eq_getD_getElem?]
    rw [Array.getElem?_append_right (by simpa using Nat.le_of_not_lt ht),Array.getElem?_replicate]
    split<;>rfl
  ·show rst hp rs k=G k
   simp [rst,hk,hG k hk]
 refine wpIn_mono (h C rfl rfl rfl r _ W hi) ?_
 rintro e a' W' ⟨s',r',⟨he,hhp,v,ns,ρ,hRv,hρ0,hρ,hinj,hr,hns⟩,hi'⟩
 obtain ⟨S,ms,⟨hS,os,tape,output,size,hsame⟩,hS1,hS2,⟨hdef,hnd⟩,hms⟩:=hi'.ri.ext
 have hkeep:∀ i,dom (rst hp rs) i->dom s'.hp i/\r' i=r i:=hi'.ri.keep
 obtain ⟨_,hk100,_,hbl⟩:=hfit v ns hRv
 have mine:∀ W'':World,(∀ k,k∉ms->W''.heap[k]? = W'.heap[k]?)->∀ i b,s'.hp i=some b->W''.heap[r' i]? = some (b.obj r'):=λW'' hW i b hb=>by
  rw [hW _ (λhm=>hi'.ri.ne_mark (by unfold dom;rw [hb];simp) (hms _ hm).1 rfl)]
  exact (hi'.ri.sat i b hb).1
 have hend:∀ W'':World,W''.heap.size=W'.heap.size->W''.os=W'.os->W''.tape=W'.tape->W''.output=W'.output->(∀ k,k∉ms->W''.heap[k]? = W'.heap[k]?) ->
   LeavesIn (Fw P none) 0 P fn a'.tmps (λe W'=>∃ v ns r',R v ns/\(∀ k,dom (rst hp rs) k->r' k=r k)/\e=.returned (ren r' v)/\Turn r' (zc7 (dom (rst hp rs)) ns) W W' [] ns) [] .returning W'':=λW'' e1 e2 e3 e4 e5=>by
  have hsat':Sat r' (dom s'.hp) s'.hp W'':=λk b hk=>⟨mine W'' e5 k b hk,(hi'.ri.sat k b hk).2⟩
  have hrun:=zem (fn:=fn) hi'.ri.rel hsat' hr
  rw [zc5] at hrun
  refine ⟨_,hrun,v,ns,λk=>r' (ρ k),hRv,λk hk=>by show r' (ρ k)=r k;rw [hρ0 k hk];exact (hkeep k hk).2,rfl,?_⟩
  refine ⟨e2.trans os,e3.trans tape,e4.trans output,by rw [e1];exact size,λk hk _=>?_,λp hp1=>?_,λp hp1=>?_,λp hp1 q hq1 hpq=>?_⟩
  ·by_cases hk':im k
   ·obtain ⟨i,hi1,rfl⟩:=hk'
    cases hb:rst hp rs i with
    | none=>exact absurd hb hi1
    | some b =>
     have e:s'.hp i=some b:=(hhp i hi1).trans hb
     have:=mine W'' e5 i b e
     rw [(hkeep i hi1).2,Blk.obj_congr (λk hk=>(hkeep k hk).2) (hcl i b hb)] at this
     rw [this,(hsat i b hb).1]
   ·have hSk:S k:=(hS k).2 ⟨hk,hk'⟩
    rw [e5 k (λhm=>(hms k hm).2.1 hSk)]
    exact hsame k hSk
  ·have hp1:p∈ns:=by simpa using hp1
   refine ⟨?_,hbl p hp1⟩
   have:=mine W'' e5 _ _ (hns p hp1)
   rw [Blk.rn_obj] at this
   exact this
  ·have hd:dom s'.hp (ρ p.1):=by unfold dom;rw [hns p hp1];simp
   have h1:=hS2 _ hd (hρ p hp1).2
   rw [hS] at h1
   refine Classical.byContradiction λhlt=>h1 ⟨by omega,λ⟨i,hi1,e⟩=>?_⟩
   have:=hi'.ri.inj i (ρ p.1) (hkeep i hi1).1 hd ((hkeep i hi1).2.trans e)
   exact (hρ p hp1).1 (this▸hi1)
  ·have hd:∀ x∈ns,dom s'.hp (ρ x.1):=λx hx=>by unfold dom;rw [hns x hx];simp
   exact hinj p hp1 q hq1 (hi'.ri.inj _ _ (hd p hp1) (hd q hq1) hpq)
 rcases he with rfl|rfl
 ·show LeavesInM _ _ _ _ _ _ a'.defers _ _
  rw [hdef,List.append_nil]
  exact zdx (by simp) ms W' hnd (λD hD=>(hms D hD).1) hend
 ·show LeavesInM _ _ _ _ _ _ a'.defers _ _
  rw [hdef,List.append_nil]
  exact zdx (by simp) ms W' hnd (λD hD=>(hms D hD).1) hend
end
section
variable {P:Program} {C:Ctx} {n:Nat} {d:List Deferred} {ro:Option Nat} {s:GS} {K:Exit->GS->Prop}
theorem zi8 {r:Nat->Nat} {ts:Nat->Value} {hp:Hp} {yc:Nat} {a:Act} {W:World} {mn:Nat} {o:Oper} {c:Call} {f:Operand} {g:FuncId} {cap:Array Value} {rs:List Nat} {R:Value->List (Nat×Blk)->Prop} {next:Act->World->Prop} {Q:Exit->Act->World->Prop}
  (hGF:zbm C.G) (h:RI C n d r ts hp yc a W) (hd:∀ dd,o.dst=some dd->dd<n)
  (ho:o.op=.call c) (hc:c.callee=.value f) (hf:okT ts f) (hgf:gev ts f=.func (.func g) #[] cap) (hcp:cap.all zbs=true) (ha:∀ x∈c.args.toList,okX ts hp x) (hr:FunS P C.G g (c.args.map (gev ts)++cap) hp rs R)
  (hfr:∀ v ns,R v ns->∀ k∈zab ns,hp k=none)
  (hn:∀ v ns,R v ns->∀ r' a' W',RI C n d r' (zbl ts o.dst v) (zaw hp ns) yc a' W'->next a' W'):o.wpIn (Fw P ro) mn P a W next Q:=by
 have hR:=h.rel
 have hS:=h.sat
 have hlow:=h.low
 have hD:∀ k,dom (rst hp rs) k->dom hp k:=λk hk=>by
  unfold dom at hk |-
  cases hb:rst hp rs k with
  | none=>exact absurd hb hk
  | some b=>rw [zer hb];simp
 have hRo:zqf o r (dom hp) ts a:=λt _=>hR t
 have h1:=ev hRo (x:=f) (by simp [ho,hc,Op.operands,Call.operands]) (zne (hp:=hp) hf) hlow (λ_ _ h=>h)
 rw [hgf] at h1
 have h3:a.eval f=.func (.func g) #[] (cap.map (zao r)):=by rw [h1.1];simp [ren,zas,zan]
 have hargs:c.args.map a.eval=(c.args.map (gev ts)).map (ren r):=by
  rw [Array.map_map]
  exact Array.map_congr_left λx hx=>(ev hRo (x:=x) (by simp [ho,Op.operands,Call.operands,hx]) (ha x (by simpa using hx)) hlow (λ_ _ h=>h)).1
 have hrun:(execOp a.eval o).run P W=.ok (.enter g ((c.args.map (gev ts)).map (ren r)++cap.map (zao r))) W:=by
  simp [execOp,ho,resolve,hc,h3,Deferred.ofValue,invoke,hargs,hr.enter]
 have hS':Sat r (dom (rst hp rs)) (rst hp rs) W:=λk b hk=>⟨(hS k b (zer hk)).1,hr.closed k b hk⟩
 have hS2:Sat r (dom hp) (rst hp rs) W:=λk b hk=>hS k b (zer hk)
 have hcall:=hr.run r W (zx4 hGF (λk hk=>h.glob k hk) hS2 hlow hD) hS' (λk l hk hl=>h.inj k l (hD k hk) (hD l hl)) (λk hk hd=>hlow k hk (hD k hd))
 have hcap:∀ x∈cap,ren r x=zao r x:=λx hx=>zc8 (Array.all_eq_true_iff_forall_mem.1 hcp x hx)
 have e2:(c.args.map (gev ts)).map (ren r)++cap.map (zao r)=(c.args.map (gev ts)++cap).map (ren r):=by
  rw [Array.map_append];congr 1;exact Array.map_congr_left λx hx=>(hcap x hx).symm
 refine zev (R:=λu W'=>next (a.put o.dst u) W') (Rp:=λ_ _=>False) (by rw [ho];intro c;simp) ?_ (λu W' h=>h) (λpv W' h=>h.elim)
 unfold zlj
 rw [hrun]
 dsimp only
 rw [e2]
 refine hcall.mono λe W'' he=>?_
 obtain ⟨v,ns,r1,hRv,hr1,rfl,ht⟩:=he
 obtain ⟨f1,f2,f3,f4⟩:=hr.fits v ns hRv
 have hfree:=hfr v ns hRv
 let r2:Nat->Nat:=λk=>if k∈zab ns then r1 k else r k
 have e0:∀ k,k∈zab ns->r2 k=r1 k:=λk hk=>by simp [r2,hk]
 have e1:∀ k,zc7 (dom (rst hp rs)) ns k->r2 k=r1 k:=λk hk=>by
  by_cases hm:k∈zab ns
  ·exact e0 k hm
  ·simp only [r2,if_neg hm];exact (hr1 k (hk.resolve_right hm)).symm
 have hmono:∀ k,zc7 (dom (rst hp rs)) ns k->zc7 (dom hp) ns k:=λk hk=>hk.imp (hD k) id
 have e3:∀ k,dom hp k->r2 k=r k:=λk hk=>by simp only [r2,if_neg (λh=>hk (hfree k h))]
 have hv:ren r1 v=ren r2 v:=(zc6 e1 f1).symm
 show next (a.put o.dst (ren r1 v)) W''
 rw [hv]
 refine hn v ns hRv r2 _ _ ?_
 have:=h.after (dst:=o.dst) hd (e:=⟨v,[],[],ns,none,false⟩) e3 (zcd hmono f1) ⟨ht.os,ht.tape,ht.output,ht.size,λk hk _=>ht.same k hk (by simp),λp hp1=>?_,λp hp1=>by rw [e0 _ (zah.2 ⟨p,hp1,rfl⟩)];exact ht.fresh p hp1,
  λp hp1 q hq1 h=>ht.apart p hp1 q hq1 (by rw [<-e0 _ (zah.2 ⟨p,hp1,rfl⟩),<-e0 _ (zah.2 ⟨q,hq1,rfl⟩)];exact h)⟩ (by simp [zab]) (λk hk=>⟨hfree k hk,(f2 k hk).1⟩)
 ·simpa using this
 ·have hp1:p∈ns:=by simpa using hp1
  have hh:=ht.has p (by simpa using hp1)
  rw [e0 _ (zah.2 ⟨p,hp1,rfl⟩),Blk.obj_congr e1 hh.2]
  exact ⟨hh.1,Blk.ids_mono hmono hh.2⟩
end
section
variable {P:Program} {C:Ctx} {n:Nat} {d:List Deferred} {ro:Option Nat} {s:GS} {K:Exit->GS->Prop}
def GL (P:Program) (C:Ctx) (n:Nat) (d:List Deferred) (ro:Option Nat) (ops:Array Oper) (base k:Nat) (l:List Oper) (ts:Nat->Value) (hp:Hp) (yc:Nat) (K:Exit->GS->Prop):Prop :=
 ∀ r a W,RI C n d r ts hp yc a W->(∀ x,base+8*k<=x->hp x=none)->100<=base->zbm C.G->(∀ y,C.Y=some y->zgg P C.G C.E y)->wpListIn (Fw P ro) 0 P ops (λe a' W'=>∃ s' r',K e s'/\GI P C n d r' s' a' W') l a W
theorem za7 {id:Nat} {l:List Oper} (h:GL P C n d ro l.toArray s.B 0 l s.ts s.hp s.yc K):GW P C n d ro (.region id l.toArray false) s K:=λr a W hi =>
 wpIn_region_lit (h r a W hi.ri (by simpa using hi.free) hi.low hi.flat hi.rounds)
theorem zbh {ops:Array Oper} {base k:Nat} {ts:Nat->Value} {hp:Hp} {yc:Nat} (h:K .normal ⟨ts,hp,base+8*k,yc⟩):GL P C n d ro ops base k [] ts hp yc K:=λr a W hi hf hb hG hR =>
 wpListIn_nil ⟨⟨ts,hp,_,yc⟩,r,h,hi,hf,by show 100<=base+8*k;omega,hG,hR⟩
theorem z7y {l0 l:List Oper} {base k:Nat} {ts:Nat->Value} {hp:Hp} {yc:Nat} (j:Nat) (pn:List FuncId) (hl:l=l0.drop k) (hk:k<=l0.length) (hdst:(zhd n (l.take j)&&zrz P (l.take j))=true)
  (h:∀ q:(Nat->Value)->Hp->Tr->Nat->Prop,(∀ ts hp tr yc,GL P C n d ro l0.toArray base (k+(l.take j).length) (l.drop j) ts hp yc K->q ts hp tr yc) ->
   zhu P C.G ⟨C.Y,pn,false⟩ base ⟨q,λ_ _=>False⟩ ((l0.take k).map (·.dst)).reverse k (l.take j) ts hp [] yc true false):GL P C n d ro l0.toArray base k l ts hp yc K:=by
 intro r a W hi hf hb hG hR
 simp only [Bool.and_eq_true] at hdst
 have e:l=l.take j++l.drop j:=(List.take_append_drop j l).symm
 have ek:(l0.take k).length=k:=by simp;omega
 have hh:=h (λts hp _ yc=>GL P C n d ro l0.toArray base (k+(l.take j).length) (l.drop j) ts hp yc K) (λ_ _ _ _ a=>a)
 have hx:zji P C.G ⟨C.Y,pn,false⟩ l0.toArray base (λts hp _ yc=>GL P C n d ro l0.toArray base (k+(l.take j).length) (l.drop j) ts hp yc K) (λ_ _=>False) k (l.take j) ts hp [] yc true false:=by
  refine zdf (Q:=⟨_,λ_ _=>False⟩) (l.take j) _ k _ _ _ _ _ _ (λi hi=>?_) (λi hi=>?_) hh
  ·rw [List.getElem?_reverse (by simp;omega)]
   simp only [List.length_map,ek,List.getElem?_map,List.getElem?_toArray]
   rw [show k - 1 - (k - 1 - i)=i by omega,List.getElem?_take,if_pos hi]
   cases l0[i]?<;>rfl
  ·have hi':i<j:=by simp at hi;omega
   rw [List.getElem?_take,if_pos hi',hl,List.getElem?_drop];simp
 rw [e]
 refine zfw (l.drop j) (ops:=l0.toArray) (base:=base) (pn:=pn) (Q:=λe a' W'=>∃ s' r',K e s'/\GI P C n d r' s' a' W') (Kn:=λts hp yc=>GL P C n d ro l0.toArray base (k+(l.take j).length) (l.drop j) ts hp yc K) (Kp:=λ_=>False) (hp0:=hp) (ts0:=ts) (l0:=l.take j) hG hR hb (l.take j) k ts hp [] yc true false r a W
  (λo ho=>⟨⟨zfm hdst.1 ho,zg0 hdst.2 o ho⟩,ho⟩) (λ_ _=>rfl) hi hf (by simp) (λts' hp' yc' r' a' W' hk' hi' hf' _=>hk' r' a' W' hi' hf' hb hG hR) (λ_ _ _ _ _ _ _ h=>h.elim) hx
theorem jdl {ops:Array Oper} {o:Oper} {post:List Oper} {base k:Nat} {ts:Nat->Value} {hp:Hp} {yc:Nat} (hg:o.guard=none) (hd:∀ dd,o.dst=some dd->dd<n)
  (h:z8d P o ts hp (base+8*k) λts' hp'=>GL P C n d ro ops base (k+1) post ts' hp' yc K):GL P C n d ro ops base k (o::post) ts hp yc K:=by
 intro r a W hi hf hb hG hR
 obtain ⟨tx,ty,t,e,i,z,k',j,off2,sl,cap,m,m',b,b2,nw,ho,ht,hii,hz,hx,hk1,hb',hbT,hbf,hy,hb2,hrd,hnl,hnw,hb2f,h1,hzf,hc,hsl,hs1,hs2,hroom,hgrow⟩:=h
 refine wpListIn_plain hg λK' hK'=>?_
 refine zk4 hi hd ho ht hii hz hx hk1 hb' hbT hbf hy hb2 hrd hnl hnw hb2f h1 hzf hc hsl hs1 hs2 (nk:=base+8*k) ⟨hf _ (Nat.le_refl _),by omega⟩ (λhr r'' a'' W'' hi''=>hK' _ _ (hroom hr r'' a'' W'' hi'' (λx hx'=>?_) hb hG hR)) (λhr cap' hc' r'' a'' W'' hi''=>hK' _ _ (hgrow hr cap' hc' r'' a'' W'' hi'' (λx hx'=>?_) hb hG hR))
 ·rw [zaa _ _ (λe=>?_)]
  ·exact hf x (by omega)
  ·subst e;rw [hf x (by omega)] at hb';cases hb'
 ·rw [zaa _ _ (λe=>by omega)]
  exact hf x (by omega)
theorem zsd {ops:Array Oper} {o:Oper} {post:List Oper} {base k:Nat} {ts:Nat->Value} {hp hp':Hp} {yc:Nat} {c:Call} {f:Operand} {g:FuncId} {cap:Array Value} {rs:List Nat} {R:Value->List (Nat×Blk)->Prop} (hg:o.guard=none) (hd:∀ dd,o.dst=some dd->dd<n)
  (ho:o.op=.call c) (hc:c.callee=.value f) (hf:okT ts f) (hgf:gev ts f=.func (.func g) #[] cap) (hcp:cap.all zbs=true) (ha:∀ x∈c.args.toList,okX ts hp x) {args:Array Value} (hargs:c.args.map (gev ts)++cap=args) (hr:FunS P C.G g args hp' rs R)
  (h1:∀ q∈rs,hp' q=hp q) (h2:∀ q,q<100->hp' q=hp q) (hat:∀ v ns,R v ns->∀ q∈zab ns,base+8*k<=q/\q<base+8*k+8)
  (h:∀ v ns,R v ns->GL P C n d ro ops base (k+1) post (zbl ts o.dst v) (zaw hp ns) yc K):GL P C n d ro ops base k (o::post) ts hp yc K:=by
 intro r a W hi hfr hb hG hR
 refine wpListIn_plain hg λK' hK'=>?_
 refine zi8 hG hi hd ho hc hf hgf hcp ha (by rw [hargs];exact hr.under λq hq=>hq.elim (h2 q) (h1 q)) (λv ns hRv q hq=>hfr q (hat v ns hRv q hq).1) (λv ns hRv r' a' W' hi'=>hK' _ _ (h v ns hRv r' a' W' hi' (λx hx=>?_) hb hG hR))
 rw [zbb (λhm=>by have:=hat v ns hRv x hm;omega)]
 exact hfr x (by omega)
end
section
variable {P:Program} {C:Ctx} {n:Nat} {d:List Deferred} {ro:Option Nat} {s:GS} {K:Exit->GS->Prop}
theorem gwl {l0 l:List Oper} {base k:Nat} {ts:Nat->Value} {hp:Hp} {yc:Nat} (j:Nat)
  (h:∀ q:(Nat->Value)->Hp->Tr->Nat->Prop,(∀ ts hp tr yc,GL P C n d ro l0.toArray base (k+(l.take j).length) (l.drop j) ts hp yc K->q ts hp tr yc) ->
   zhu P C.G ⟨C.Y,[],false⟩ base ⟨q,λ_ _=>False⟩ ((l0.take k).map (·.dst)).reverse k (l.take j) ts hp [] yc true false) (hl:l=l0.drop k:=by rfl) (hk:k<=l0.length:=by simp) (hdst:(zhd n (l.take j)&&zrz P (l.take j))=true:=by kernel_rfl):GL P C n d ro l0.toArray base k l ts hp yc K:=z7y j [] hl hk hdst h
end
section
variable {P:Program}
theorem zk1 (w:World) (t ty e:TypeId) (i:TypeInfo) (ht:P.underlying t=some (.slice e)) (hi:P.info? e=some i) (base q:Option Addr) (sl cap c:Nat) (h:sl<=cap) :
  (Builtin.append_ #[t,t] ty #[.slice base sl cap,.slice q 0 c]).run P w=.ok (.slice base sl cap) w:=by
 have hf:(Builtin.firstCells i.size 0 (.slice q 0 c)).run P w=.ok #[] w:=by
  cases q with
  | none=>rfl
  | some a=>exact run_firstCells_some (P:=P) w i.size 0 a 0 c [] (by simp) (by simp)
 cases base with
 | none=>simp [Builtin.append_,run_underlying ht,sizeOf,typeInfo,hi,Builtin.lenOf,h,hf]
 | some a=>simp [Builtin.append_,run_underlying ht,sizeOf,typeInfo,hi,Builtin.lenOf,h,hf,storeCells]
theorem z1b {o:Oper} {a:Act} {W:World} {R Rp:Value->World->Prop} {x y:Operand} {t e:TypeId} {i:TypeInfo} {z:Value} {base:Option Addr} {g2 off2 m m':Nat} {nw:List Value}
  (ho:o.op=.call { callee:=.builtin .append,args:=#[x,y],argTypes:=#[t,t] }) (ht:P.underlying t=some (.slice e)) (hi:P.info? e=some i) (hz:i.zero=some z)
  (hx:a.eval x=.slice base 0 0) (hy:a.eval y=.slice (some ⟨g2,off2,none⟩) m m') (hl:nw.length=m*i.size) (hn:∀ j u,nw[j]? = some u->W.cell? ((⟨g2,off2,none⟩:Addr).add j)=some u)
  (hm:0<m) (hb1:m<=maxLen) (hb2:m*i.bytes<=140737488355328)
  (grow:∀ cap',m<=cap'->R (.slice (some ⟨W.heap.size,0,none⟩) m cap') (W.drew.alloc (.cells (nw.toArray++Builtin.zeroCells z.cells (cap' - m)) e))):zlj P o a W R Rp:=by
 unfold zlj
 cases base with
 | none =>
  have h:=run_append_nil (P:=P) W t o.type e i z ht hi hz ⟨g2,off2,none⟩ m m' nw hl hn hm (by simp only [maxLen] at hb1;omega) (by omega)
  simp only [execOp,ho,resolve,Sem.run_bind,Sem.run_pure,Result.andThen_ok,invoke,builtin,List.map_toArray,List.map_cons,List.map_nil,hx,hy,h]
  exact grow _ (grownCap_ge _ _ _ _)
 | some b =>
  have h:=run_append_grow (P:=P) W t o.type e i z ht hi hz b 0 0 [] (by simp) (by simp) ⟨g2,off2,none⟩ m m' nw hl hn (by omega) (by simp only [maxLen] at hb1;omega) (by simpa using growslice_fits (need:=0+m) (old:=0) (by omega) (by simpa using hb2))
  simp only [Nat.zero_add] at h
  simp only [execOp,ho,resolve,Sem.run_bind,Sem.run_pure,Result.andThen_ok,invoke,builtin,List.map_toArray,List.map_cons,List.map_nil,hx,hy,h]
  have:=grow _ (grownCap_ge W m 0 e)
  simpa using this
end
section
variable {P:Program} {C:Ctx} {n:Nat} {d:List Deferred} {ro:Option Nat} {s:GS} {K:Exit->GS->Prop}
theorem zp9 {ops:Array Oper} {o:Oper} {post:List Oper} {base k:Nat} {ts:Nat->Value} {hp:Hp} {yc:Nat} {tx ty:Tmp} {t e:TypeId} {sz by':Nat} {z:Value} {p:Option Addr} {j off2 m m':Nat} {b2:Blk} {nw:List Value} (hg:o.guard=none) (hd:∀ dd,o.dst=some dd->dd<n)
  (ho:o.op=.call { callee:=.builtin .append,args:=#[.tmp tx,.tmp ty],argTypes:=#[t,t] }) (ht:P.underlying t=some (.slice e)) (hs:zaz P e=some sz) (hz:zbq P e=some z) (hby:zi9 P e=some by')
  (hx:ts tx=.slice p 0 0) (hy:ts ty=.slice (some ⟨j,off2,none⟩) m m') (hb2:hp j=some b2) (hnw:∀ q u,nw[q]? = some u->b2.c[off2+q]? = some u) (hb2f:∀ x∈nw,zbj x=true) (hzf:∀ q,∀ x∈Builtin.zeroCells z.cells q,zbj x=true)
  (hm0:0<m) (hm:m*sz=nw.length) (hs1:m<=maxLen) (hs2:m*by'<=140737488355328)
  (grow:∀ cap',m<=cap'->GL P C n d ro ops base (k+1) post (zbl ts o.dst (.slice (some ⟨base+8*k,0,none⟩) m cap')) (upd hp (base+8*k) (some ⟨(nw++(Builtin.zeroCells z.cells (cap' - m)).toList).toArray,.ty e⟩)) yc K) (hrd:b2.T.rd=true:=by first|rfl|assumption):GL P C n d ro ops base k (o::post) ts hp yc K:=by
 intro r a W hi hf hb hG hR
 unfold zaz at hs;unfold zbq at hz;unfold zi9 at hby
 cases hii:P.info? e with
 | none=>rw [hii] at hs;cases hs
 | some i =>
  rw [hii] at hs hz hby
  simp only [Option.map_some,Option.some.injEq,Option.bind_some] at hs hz hby
  subst hs;subst hby
  refine wpListIn_plain hg λK' hK'=>?_
  have ex:∃ p',a.eval (.tmp tx)=.slice p' 0 0:=by
   have:=(hi.rel tx).resolve_left (by rw [hx];simp [zbz])
   rw [hx] at this
   cases p with
   | none=>exact ⟨none,this.1⟩
   | some q=>exact ⟨_,this.1⟩
  obtain ⟨p',ex⟩:=ex
  have ey:a.eval (.tmp ty)=.slice (some ⟨r j,off2,none⟩) m m':=by
   have:=(hi.rel ty).resolve_left (by rw [hy];simp [zbz])
   rw [hy] at this
   exact this.1
  have hn:∀ q u,nw[q]? = some u->W.cell? ((⟨r j,off2,none⟩:Addr).add q)=some u:=λq u hq=>by
   rw [Addr.add_lit]
   exact zso (hi.sat j b2 hb2).1 (hnw q u hq) (hb2f u (List.mem_of_getElem? hq)) hrd
  have hnk:hp (base+8*k)=none:=hf _ (Nat.le_refl _)
  refine zev (by rw [ho];intro c;simp) (z1b (R:=λu W'=>wpListIn (Fw P ro) 0 P ops _ post (a.put o.dst u) W') (Rp:=λ_ _=>False) ho ht hii hz ex ey hm.symm hn hm0 hs1 hs2 (λcap' hcap=>?_)) (λu W' h=>hK' _ _ h) (λpv W' h=>h.elim)
  have hff:∀ x∈(nw++(Builtin.zeroCells z.cells (cap' - m)).toList).toArray,zbj x=true:=λx hx=>by
   simp only [List.mem_toArray,List.mem_append] at hx
   rcases hx with hx|hx
   ·exact hb2f x hx
   ·exact hzf _ x (by simpa using hx)
  have hnd:¬dom hp (base+8*k):=by unfold dom;simp [hnk]
  have hr':∀ q,dom hp q->upd r (base+8*k) W.heap.size q=r q:=λq hq=>zaa _ _ (λe=>hnd (e▸hq))
  have hv:(Value.slice (some ⟨W.heap.size,0,none⟩) m cap')=ren (upd r (base+8*k) W.heap.size) (.slice (some ⟨base+8*k,0,none⟩) m cap'):=by simp [ren,zas,zan,zao,zbg]
  have ec:nw.toArray++Builtin.zeroCells z.cells (cap' - m)=(nw++(Builtin.zeroCells z.cells (cap' - m)).toList).toArray:=by
   rw [<-List.append_toArray,Array.toArray_toList]
  rw [hv,ec]
  refine grow cap' hcap (upd r (base+8*k) W.heap.size) _ _ (hi.drew.after (e:=⟨.slice (some ⟨base+8*k,0,none⟩) m cap',[],[],[(base+8*k,⟨_,.ty e⟩)],none,false⟩) hd hr' (by simp [zap,zau,zaj,zal,zc7,zab]) ⟨rfl,rfl,rfl,(by show W.heap.size<=(W.heap.push _).size;simp),λq hq _=>?_,λp hp1=>?_,λp hp1=>?_,by simp⟩ (by simp [zab]) (by simp [zab,hnk];omega)) (λx hx'=>?_) hb hG hR
  ·exact Below.heap_alloc _ _ _ hq
  ·simp only [List.nil_append,List.mem_singleton] at hp1
   subst hp1
   refine ⟨?_,Blk.flat_ids hff⟩
   rw [Blk.obj_flat hff]
   show (W.drew.alloc _).heap[upd r (base+8*k) W.heap.size (base+8*k)]? = _
   rw [zbg]
   exact heap_alloc_new W.drew _
  ·simp only [List.mem_singleton] at hp1
   subst hp1
   show W.heap.size<=upd r (base+8*k) W.heap.size (base+8*k)
   rw [zbg]
   exact Nat.le_refl _
  ·rw [zaa _ _ (λe=>by omega)]
   exact hf x (by omega)
theorem zqa {ops:Array Oper} {o:Oper} {post:List Oper} {base k:Nat} {ts:Nat->Value} {hp:Hp} {yc:Nat} {tx ty:Tmp} {t e:TypeId} {sz:Nat} {p q:Option (Nat×Nat)} {sl cap c:Nat} (hg:o.guard=none) (hd:∀ dd,o.dst=some dd->dd<n)
  (ho:o.op=.call { callee:=.builtin .append,args:=#[.tmp tx,.tmp ty],argTypes:=#[t,t] }) (ht:P.underlying t=some (.slice e)) (hs:zaz P e=some sz)
  (hx:ts tx=.slice (p.map λp=>⟨p.1,p.2,none⟩) sl cap) (hy:ts ty=.slice (q.map λp=>⟨p.1,p.2,none⟩) 0 c) (hsl:sl<=cap)
  (h:GL P C n d ro ops base (k+1) post (zbl ts o.dst (ts tx)) hp yc K):GL P C n d ro ops base k (o::post) ts hp yc K:=by
 intro r a W hi hf hb hG hR
 unfold zaz at hs
 cases hii:P.info? e with
 | none=>rw [hii] at hs;cases hs
 | some i =>
  refine wpListIn_plain hg λK' hK'=>?_
  have hjx:ts tx≠zbz:=by rw [hx];simp [zbz]
  have ex0:=(hi.rel tx).resolve_left hjx
  have ex:∃ p',a.eval (.tmp tx)=.slice p' sl cap:=by
   have:=ex0.1
   rw [hx] at this
   cases p with
   | none=>exact ⟨none,this⟩
   | some q=>exact ⟨_,this⟩
  have ey:∃ p',a.eval (.tmp ty)=.slice p' 0 c:=by
   have:=(hi.rel ty).resolve_left (by rw [hy];simp [zbz])
   rw [hy] at this
   cases q with
   | none=>exact ⟨none,this.1⟩
   | some q=>exact ⟨_,this.1⟩
  obtain ⟨p',ex⟩:=ex
  obtain ⟨q',ey⟩:=ey
  have hrun:=zk1 (P:=P) W t o.type e i ht hii p' q' sl cap c hsl
  have hev:a.eval (.tmp tx)=ren r (ts tx):=ex0.1
  refine zev (by rw [ho];intro c;simp) (R:=λu W'=>u=ren r (ts tx)/\W'=W) (Rp:=λ_ _=>False) ?_ (λu W' h'=>?_) (λpv W' h=>h.elim)
  ·unfold zlj
   simp only [execOp,ho,resolve,Sem.run_bind,Sem.run_pure,Result.andThen_ok,invoke,builtin,List.map_toArray,List.map_cons,List.map_nil,ex,ey,hrun]
   rw [<-ex,hev];exact ⟨rfl,trivial⟩
  ·obtain ⟨rfl,rfl⟩:=h'
   refine hK' _ _ (h r _ _ ?_ (λx hx'=>hf x (by omega)) hb hG hR)
   have:=hi.after (dst:=o.dst) hd (e:=⟨ts tx,[],[],[],none,false⟩) (r':=r) (λ_ _=>rfl) (by rw [zh0];exact ex0.2) ⟨rfl,rfl,rfl,Nat.le_refl _,λ_ _ _=>rfl,by simp,by simp,by simp⟩ (by simp [zab]) (by simp [zab])
   simpa using this
end

@[simp] theorem zny (x:Int):IntKind.u64.wrap x=x%18446744073709551616:=by simp [IntKind.wrap,IntKind.bits,IntKind.signed]
@[simp] theorem jki (x:Int):IntKind.i64.wrap x=Int.bmod x 18446744073709551616:=by
 rw [Int.bmod_def]
 simp only [IntKind.wrap,IntKind.bits,IntKind.signed]
 simp
 split<;>split<;>omega
@[simp] theorem jh8:IntKind.u64.bits=64:=rfl
@[simp] theorem jh7:IntKind.i64.bits=64:=rfl

def wi (z:Int) (k:Nat):Int:=z / 2^(64*k)%18446744073709551616
def di (z:Int) (k:Nat):Int:=z / 2^(32*k)%4294967296
def car (z y c:Int) (i:Nat):Int:=(z%2^(32*i)+y%2^(32*i)+c) / 2^(32*i)

theorem zbp (z:Int) (k:Nat):0<=wi z k:=Int.emod_nonneg _ (by omega)
theorem zbx (z:Int) (k:Nat):wi z k<18446744073709551616:=Int.emod_lt_of_pos _ (by omega)
theorem zm1 (z:Int) (k:Nat):0<=di z k:=Int.emod_nonneg _ (by omega)
theorem zm2 (z:Int) (k:Nat):di z k<4294967296:=Int.emod_lt_of_pos _ (by omega)

theorem zg3 (i:Nat):(2:Int)^(32*(i+1))=2^(32*i)*4294967296:=by
 rw [Nat.mul_add,Int.pow_add];rfl
theorem zbk (i:Nat):(0:Int)<2^(32*i):=Int.pow_pos (by decide)

theorem zeb (z M B:Int) (hM:0<M) (hB:0<B):z%(M*B)=z%M+M*(z / M%B):=by
 have h1:=Int.emod_add_mul_ediv z M
 have h2:=Int.emod_add_mul_ediv (z / M) B
 have h3:=Int.emod_nonneg z (b:=M) (by omega)
 have h4:=Int.emod_lt_of_pos z hM
 have h5:=Int.emod_nonneg (z / M) (b:=B) (by omega)
 have h6:=Int.emod_lt_of_pos (z / M) hB
 have e:z=(z%M+M*(z / M%B))+(M*B)*(z / M / B):=by
  have:M*B*(z / M / B)=M*(B*(z / M / B)):=Int.mul_assoc ..
  rw [this]
  have h7:M*(z / M)=M*(z / M%B+B*(z / M / B)):=by rw [h2]
  rw [Int.mul_add] at h7
  omega
 have hnn:0<=z%M+M*(z / M%B):=by
  have:=Int.mul_nonneg (Int.le_of_lt hM) h5;omega
 have hlt:z%M+M*(z / M%B)<M*B:=by
  have:M*(z / M%B)<=M*(B - 1):=Int.mul_le_mul_of_nonneg_left (by omega) (Int.le_of_lt hM)
  rw [Int.mul_sub] at this
  omega
 conv=>lhs;rw [e]
 rw [Int.add_mul_emod_self_left]
 exact Int.emod_eq_of_lt hnn hlt

theorem zlr (z y c M:Int) (hM:0<M):(z+y+c) / M=z / M+y / M+(z%M+y%M+c) / M:=by
 have h1:=Int.emod_add_mul_ediv z M
 have h2:=Int.emod_add_mul_ediv y M
 have:z+y+c=(z%M+y%M+c)+M*(z / M+y / M):=by rw [Int.mul_add];omega
 rw [this,Int.add_mul_ediv_left _ _ (by omega)]
 omega

theorem jeb (z y c:Int) (i:Nat):(di z i+di y i+car z y c i)%4294967296=di (z+y+c) i:=by
 unfold di car
 rw [zlr z y c _ (zbk i)]
 omega
theorem z2u (z y c:Int) (i:Nat):(di z i+di y i+car z y c i) / 4294967296=car z y c (i+1):=by
 unfold di car
 rw [zg3,zeb z _ _ (zbk i) (by omega),zeb y _ _ (zbk i) (by omega)]
 generalize hM:(2:Int)^(32*i)=M
 have hp:0<M:=hM▸zbk i
 have e:z%M+M*(z / M%4294967296)+(y%M+M*(y / M%4294967296))+c=(z%M+y%M+c)+M*(z / M%4294967296+y / M%4294967296):=by rw [Int.mul_add];omega
 rw [e,<-Int.ediv_ediv_of_nonneg (Int.le_of_lt hp),Int.add_mul_ediv_left _ _ (by omega)]
 congr 1
 omega
theorem zsn (z y c:Int):car z y c 0=c:=by simp [car,Int.emod_one]
theorem zsm (z y c:Int) (h0:0<=c) (h1:c<=1) (i:Nat):0<=car z y c i/\car z y c i<=1:=by
 unfold car
 generalize hM:(2:Int)^(32*i)=M
 have hp:0<M:=hM▸zbk i
 have h3:=Int.emod_nonneg z (b:=M) (by omega)
 have h4:=Int.emod_lt_of_pos z hp
 have h5:=Int.emod_nonneg y (b:=M) (by omega)
 have h6:=Int.emod_lt_of_pos y hp
 refine ⟨Int.ediv_nonneg (by omega) (by omega),?_⟩
 have:(z%M+y%M+c) / M<2:=Int.ediv_lt_of_lt_mul hp (by omega)
 omega
theorem jkt (z y c:Int) (h0:0<=c) (h1:c<=1) (i:Nat):((di z i+di y i+car z y c i)%18446744073709551616).tmod 4294967296=di (z+y+c) i:=by
 have:=zsm z y c h0 h1 i
 have:=zm1 z i;have:=zm2 z i;have:=zm1 y i;have:=zm2 y i
 rw [Int.tmod_eq_emod_of_nonneg (by omega),Int.emod_eq_of_lt (a:=_+_) (by omega) (by omega),jeb]
theorem jpf (z y c:Int) (h0:0<=c) (h1:c<=1) (i:Nat):((di z i+di y i+car z y c i)%18446744073709551616).tdiv 4294967296%18446744073709551616=car z y c (i+1):=by
 have:=zsm z y c h0 h1 i
 have:=zm1 z i;have:=zm2 z i;have:=zm1 y i;have:=zm2 y i
 rw [Int.tdiv_eq_ediv_of_nonneg (by omega),<-z2u]
 omega
@[simp] theorem jq3 (z:Int) (k:Nat):di z k%18446744073709551616=di z k:=by have:=zm1 z k;have:=zm2 z k;omega

def sz (z:Int):Int:=Int.bmod z 115792089237316195423570985008687907853269984665640564039457584007913129639936
theorem jnj (z:Int):z%115792089237316195423570985008687907853269984665640564039457584007913129639936=wi z 0+18446744073709551616*wi z 1+340282366920938463463374607431768211456*wi z 2+6277101735386680763835789423207666416102355444464034512896*wi z 3:=by
 simp only [wi];omega
theorem weq (a b:Int):(wi a 0==wi b 0&&(wi a 1==wi b 1&&(wi a 2==wi b 2&&wi a 3==wi b 3)))=decide (sz a=sz b):=by
 rw [Bool.eq_iff_iff]
 simp only [Bool.and_eq_true,beq_iff_eq,decide_eq_true_eq]
 have h1:=jnj a
 have h2:=jnj b
 have e:sz a=sz b↔a%115792089237316195423570985008687907853269984665640564039457584007913129639936=b%115792089237316195423570985008687907853269984665640564039457584007913129639936:=by
  unfold sz
  rw [Int.bmod_def,Int.bmod_def]
  constructor<;>intro h
  ·split at h<;>split at h<;>omega
  ·have h:a%((115792089237316195423570985008687907853269984665640564039457584007913129639936:Nat):Int)=b%((115792089237316195423570985008687907853269984665640564039457584007913129639936:Nat):Int):=h
   rw [h]
 rw [e]
 constructor
 ·rintro ⟨h3,h4,h5,h6⟩;rw [h1,h2,h3,h4,h5,h6]
 ·intro h
  simp only [wi]
  refine ⟨?_,?_,?_,?_⟩<;>omega
theorem wne (a b:Int):(!wi a 0==wi b 0||(!wi a 1==wi b 1||(!wi a 2==wi b 2||!wi a 3==wi b 3)))=!decide (sz a=sz b):=by
 rw [<-weq];simp [Bool.not_and]
def i64 (n:Int):Prop:=-9223372036854775808<=n/\n<9223372036854775808
instance (n:Int):Decidable (i64 n):=by unfold i64;infer_instance
theorem zsl (x:Int):i64 (Int.bmod x 18446744073709551616):=by
 unfold i64;rw [Int.bmod_def];constructor<;>split<;>omega
theorem z6i (z:Int):sz (Int.bmod (wi z 0) 18446744073709551616)=sz z↔i64 (sz z):=by
 simp only [wi,sz,i64,Int.bmod_def]
 constructor
 ·intro h;constructor<;>(repeat' split at h)<;>(repeat' split)<;>omega
 ·rintro ⟨h1,h2⟩;(repeat' split at h1)<;>(repeat' split)<;>omega
theorem zyf (z:Int) (h:i64 (sz z)):Int.bmod (wi z 0) 18446744073709551616=sz z:=by
 simp only [wi,sz,i64,Int.bmod_def] at *
 obtain ⟨h1,h2⟩:=h
 (repeat' split at h1)<;>(repeat' split)<;>omega
def zc2 (a b:Int):Int:=if a<b then -1 else if a=b then 0 else 1
def Blk.fx (b:Blk):Prop:=match b.T with
 | .ty _=>∀ x∈b.c,zbj x=true
 | .raw _ _=>True
 | .mp=>False
theorem Blk.fx_ids {b:Blk} (h:b.fx) (D:Nat->Prop):b.ids D:=by
 obtain ⟨c,T⟩:=b
 cases T with
 | ty t=>exact Blk.flat_ids (b:=⟨c,.ty t⟩) h
 | raw t fr=>trivial
 | mp=>exact h.elim
theorem Blk.fx_rd {b:Blk} (h:b.fx):b.T.rd=true:=by
 obtain ⟨c,T⟩:=b
 cases T with
 | ty t=>rfl
 | raw t fr=>rfl
 | mp=>exact h.elim
theorem Blk.fx_rn {b:Blk} (h:b.fx) (ρ:Nat->Nat):b.rn ρ=b:=by
 obtain ⟨c,T⟩:=b
 cases T with
 | ty t=>exact Blk.rn_flat (b:=⟨c,.ty t⟩) h
 | raw t fr=>rfl
 | mp=>exact h.elim
theorem zfo {cs:Array Value} (h:∀ x∈cs,zbj x=true) (ρ:Nat->Nat):cs.map (zan ρ)=cs:=by
 have:=Blk.rn_flat (ρ:=ρ) (b:=⟨cs,.ty 0⟩) h
 simpa [Blk.rn] using this
section
variable {P:Program} {G:Hp}
structure LOk (m:List (Nat×Blk)) (B:Nat):Prop where
 big:∀ p∈m,100<=p.1/\p.1<B
 one:(zab m).Nodup
 ids:∀ p∈m,p.2.ids λk=>k∈zab m
theorem LOk.at {m:List (Nat×Blk)} (hn:(zab m).Nodup):∀ p∈m,hpL G m p.1=some p.2:=by
 induction m with
 | nil=>intro p hp;cases hp
 | cons q m ih =>
  obtain ⟨k,b⟩:=q
  intro p hp
  simp only [zab,List.map_cons,List.nodup_cons] at hn
  rw [zai]
  rcases List.mem_cons.1 hp with rfl|hp
  ·simp
  ·have hne:¬p.1=k:=λe=>hn.1 (by rw [<-e];exact List.mem_map.2 ⟨p,hp,rfl⟩)
   rw [if_neg hne]
   exact ih hn.2 p hp
theorem LOk.low {m:List (Nat×Blk)} {B:Nat} (h:LOk m B):∀ k,k<100->hpL G m k=G k:=λ_ hk=>za6 (λp hp=>(h.big p hp).1) hk
theorem LOk.rst {m:List (Nat×Blk)} (hGF:zbm G):rst (hpL G m) (zab m)=hpL G m:=zdr hGF λp hp=>zah.2 ⟨p,hp,rfl⟩
theorem LOk.sub {m:List (Nat×Blk)} {B:Nat} (h:LOk m B) (k:Nat) (hk:k∈zab m):dom (hpL G m) k:=by
 obtain ⟨p,hp,rfl⟩:=zah.1 hk
 unfold dom;rw [LOk.at h.one p hp];simp
theorem LOk.closed {m:List (Nat×Blk)} {B:Nat} (hGF:zbm G) (h:LOk m B) (k:Nat) (b:Blk) (hk:hpL G m k=some b):b.ids (dom (hpL G m)):=by
 rcases za8 hk with h1|h1
 ·exact Blk.ids_mono (λq hq=>h.sub q hq) (h.ids (k,b) h1)
 ·exact Blk.flat_ids (hGF k b h1).2
theorem LOk.free {m:List (Nat×Blk)} {B:Nat} (hGF:zbm G) (hB:100<=B) (h:LOk m B) (x:Nat) (hx:B<=x):hpL G m x=none:=by
 cases hb:hpL G m x with
 | none=>rfl
 | some b =>
  rcases za8 hb with h1|h1
  ·have:=(h.big _ h1).2;simp at this;omega
  ·have:=(hGF x b h1).1;omega
theorem za5 {f:FuncId} {fn:Func} {c:Code} {args:Array Value} {m:List (Nat×Blk)} {v:Value} {ws:List (Nat×Blk)} {B:Nat} (hGF:zbm G) (hf:P.funcs[f]? = some fn) (hb:fn.body=some c) (hcall:∀ a w,(callFunc f a).run P w=.ok (.enter f a) w)
  (hm:LOk m B) (ha:∀ x∈args,zap (λk=>k∈zab m) x) (hv:zap (λk=>k∈zab m) v) (hw:∀ p∈ws,p.1∈zab m/\p.2.ids (λk=>k∈zab m)) (hw1:∀ k b c,(k,b)∈ws->(k,c)∈ws->b=c) (hn:args.size<=fn.ntmps) (hB:100<=B)
  (h:∀ C:Ctx,C.G=G->C.hp0=hpL G m->C.Y=none->GW P C fn.ntmps [] none c ⟨λt=>args.getD t undef,hpL G m,B,0⟩ (jmm P fn (hpL G m) (.ret v ws))):Fun P G f args (hpL G m) (zab m) (.ret v ws):=by
 have e:=LOk.rst (m:=m) hGF
 refine zfn (B:=B) hGF hm.low hf hb hcall (by rw [e];exact λx hx=>zcd (λq hq=>hm.sub q hq) (ha x hx)) (by rw [e];exact hm.closed hGF) ⟨by rw [e];exact zcd (λq hq=>hm.sub q hq) hv,λk hk=>?_,hw1,λp hp=>?_⟩ hn hB (by rw [e];exact hm.free hGF hB) (by rw [e];exact h)
 ·obtain ⟨p,hp,rfl⟩:=zah.1 hk
  have:=(hw p hp).1
  obtain ⟨q,hq,e1⟩:=zah.1 this
  exact ⟨this,hm.sub _ this,by rw [<-e1];exact (hm.big q hq).1⟩
 ·rw [e];exact Blk.ids_mono (λq hq=>hm.sub q hq) (hw p hp).2
theorem zoz {f:FuncId} {fn:Func} {c:Code} {caps:Array Value} {m:List (Nat×Blk)} {xs:List (Array Value)} {B:Nat} {v:Value} (hGF:zbm G) (hf:P.funcs[f]? = some fn) (hb:fn.body=some c) (hcall:∀ a w,(callFunc f a).run P w=.ok (.enter f a) w)
  (hm:LOk m B) (ha:∀ x∈caps,zbs x=true/\zap (λk=>k∈zab m) x) (hn:caps.size+1<=fn.ntmps) (hB:100<=B)
  (h:∀ (C:Ctx) (l stop:Nat),C.G=G->C.hp0=hpL G m->C.Y=some ⟨l,xs,stop,none⟩->GW P C fn.ntmps [] none c ⟨λt=>(#[Value.func (.yield l) #[] #[]]++caps).getD t undef,hpL G m,B,0⟩
   (λe s=>(e=.normal\/e=.ret)/\znj P fn.results.toList s.ts s.hp=some v/\s.yc=min (stop+1) xs.length/\∀ k,dom (hpL G m) k->s.hp k=hpL G m k)):IterK P G f caps (hpL G m) (zab m) xs:=by
 have e:=LOk.rst (m:=m) hGF
 exact zsz (B:=B) (v:=v) hGF hm.low hf hb hcall (by rw [e];exact λx hx=>⟨(ha x hx).1,zcd (λq hq=>hm.sub q hq) (ha x hx).2⟩) (by rw [e];exact hm.closed hGF) hn hB (by rw [e];exact hm.free hGF hB) (by rw [e];exact h)
theorem zdz {f:FuncId} {fn:Func} {c:Code} {args:Array Value} {m:List (Nat×Blk)} {R:Value->List (Nat×Blk)->Prop} {B:Nat} (hGF:zbm G) (hf:P.funcs[f]? = some fn) (hb:fn.body=some c) (hcall:∀ a w,(callFunc f a).run P w=.ok (.enter f a) w)
  (hm:LOk m B) (ha:∀ x∈args,zap (λk=>k∈zab m) x)
  (hfit:∀ v ns,R v ns->zap (zc7 (λk=>k∈zab m) ns) v/\(∀ p∈ns,B<=p.1/\p.2.ids (zc7 (λk=>k∈zab m) ns))/\(∀ k b c,(k,b)∈ns->(k,c)∈ns->b=c))
  (hn:args.size<=fn.ntmps) (hB:100<=B)
  (h:∀ C:Ctx,C.G=G->C.hp0=hpL G m->C.Y=none->GW P C fn.ntmps [] none c ⟨λt=>args.getD t undef,hpL G m,B,0⟩ λe s=>(e=.normal\/e=.ret)/\(∀ k,dom (hpL G m) k->s.hp k=hpL G m k) /\
   ∃ v ns ρ,R v ns/\(∀ k,k<B->ρ k=k)/\(∀ p∈ns,B<=ρ p.1)/\(∀ p∈ns,∀ q∈ns,ρ p.1=ρ q.1->p.1=q.1)/\znj P fn.results.toList s.ts s.hp=some (ren ρ v)/\∀ p∈ns,s.hp (ρ p.1)=some (p.2.rn ρ)):FunS P G f args (hpL G m) (zab m) R:=by
 have e:=LOk.rst (m:=m) hGF
 have hlt:∀ k,dom (hpL G m) k->k<B:=λk hk=>by
  refine Classical.byContradiction λh1=>hk (hm.free hGF hB k (by omega))
 have ext:∀ ns k,zc7 (λk=>k∈zab m) ns k->zc7 (dom (hpL G m)) ns k:=λns k hk=>hk.imp (λh1=>hm.sub k h1) id
 refine zzg (B:=B) hGF hm.low hf hb hcall (by rw [e];exact λx hx=>zcd (λq hq=>hm.sub q hq) (ha x hx)) (by rw [e];exact hm.closed hGF) (λv ns hR=>?_) hn hB (by rw [e];exact hm.free hGF hB) (λC h1 h2 h3=>?_)
 ·rw [e]
  obtain ⟨f1,f2,f3⟩:=hfit v ns hR
  refine ⟨zcd (ext ns) f1,λk hk=>?_,f3,λp hp=>Blk.ids_mono (ext ns) (f2 p hp).2⟩
  obtain ⟨p,hp,rfl⟩:=zah.1 hk
  have:=(f2 p hp).1
  exact ⟨by omega,λhd=>by have:=hlt _ hd;omega⟩
 ·rw [e] at h2 |-
  refine zdu (h C h1 h2 h3) λe s=>λ⟨q1,q2,v,ns,ρ,q3,q4,q5,q6,q7,q8⟩=>⟨q1,q2,v,ns,ρ,q3,λk hk=>q4 k (hlt k hk),λp hp=>?_,q6,q7,q8⟩
  have:=q5 p hp
  exact ⟨λhd=>by have:=hlt _ hd;omega,by omega⟩
theorem zdc {m:List (Nat×Blk)} (hGF:zbm G) {hp:Hp} (h1:∀ p∈m,hp p.1=hpL G m p.1) (h2:∀ k,k<100->hp k=hpL G m k):∀ k,dom (hpL G m) k->hp k=hpL G m k:=λk hk=>by
 unfold dom at hk
 cases hb:hpL G m k with
 | none=>exact absurd hb hk
 | some b =>
  rw [<-hb]
  rcases za8 hb with h|h
  ·exact h1 _ h
  ·exact h2 k (hGF k b h).1
theorem zpl {m:List (Nat×Blk)} {B:Nat} (hm:LOk m B) (ρ:Nat->Nat) (hlow:∀ k,k<100->ρ k=k) {hp:Hp} (hp0:∀ k,k<100->hp k=G k) (hat:∀ p∈m,100<=ρ p.1/\hp (ρ p.1)=some (p.2.rn ρ)) (hinj:∀ k∈zab m,∀ l∈zab m,ρ k=ρ l->k=l):Rn ρ (hpL G m) hp (zab m):=by
 refine ⟨λk hk=>⟨hlow k hk,by rw [hp0 k hk,hm.low k hk]⟩,λk hk _=>?_,λk hk _=>?_,λk hk l hl _ _ e=>?_⟩
 ·obtain ⟨p,hp,rfl⟩:=zah.1 hk
  exact (hat p hp).1
 ·obtain ⟨p,hp,rfl⟩:=zah.1 hk
  exact ⟨p.2,LOk.at hm.one p hp,(hat p hp).2⟩
 ·exact hinj k hk l hl e
theorem zh5 {f:FuncId} {args args':Array Value} {m ws:List (Nat×Blk)} {B:Nat} {v:Value} {hp:Hp} {nk:Nat} {K:Eff->Prop} (h:Fun P G f args (hpL G m) (zab m) (.ret v ws)) (hGF:zbm G) (hm:LOk m B) (ρ:Nat->Nat) (hlow:∀ k,k<100->ρ k=k) (ea:args.map (ren ρ)=args')
  (hat:∀ p∈m,100<=ρ p.1/\hp (ρ p.1)=some (p.2.rn ρ)) (hinj:∀ k∈zab m,∀ l∈zab m,ρ k=ρ l->k=l) (hK:K ((Res.ret (ren ρ v) (rnL ρ ws)).eff ((zab m).map ρ))):zgn P G f args' hp nk K:=by
 let hp':Hp:=λk=>if k<100 then G k else hp k
 have h1:Rn ρ (hpL G m) hp' (zab m):=zpl hm ρ hlow (λk hk=>by simp [hp',hk]) (λp hp1=>⟨(hat p hp1).1,by
  show (if ρ p.1<100 then G (ρ p.1) else hp (ρ p.1))=_
  have:=(hat p hp1).1
  rw [if_neg (by omega)];exact (hat p hp1).2⟩) hinj
 subst ea
 refine zb2 (h.rn ρ hGF hm.low h1) (λk hk=>?_) (λk hk=>by simp [hp',hk]) (by exact trivial) hK
 obtain ⟨q,hq,rfl⟩:=List.mem_map.1 hk
 obtain ⟨p,hp1,rfl⟩:=zah.1 hq
 show (if ρ p.1<100 then G (ρ p.1) else hp (ρ p.1))=_
 have:=(hat p hp1).1
 rw [if_neg (by omega)]
theorem zac {f:FuncId} {args args':Array Value} {m:List (Nat×Blk)} {B:Nat} {v:Value} {hp:Hp} {nk:Nat} {K:Eff->Prop} (h:Fun P G f args (hpL G m) (zab m) (.ret v [])) (hGF:zbm G) (hm:LOk m B) (ρ:Nat->Nat) (hlow:∀ k,k<100->ρ k=k) (ea:args.map (ren ρ)=args') (hv:za0 v=true)
  (hat:∀ p∈m,100<=ρ p.1/\hp (ρ p.1)=some (p.2.rn ρ)) (hinj:∀ k∈zab m,∀ l∈zab m,ρ k=ρ l->k=l) {rs:List Nat} (er:(zab m).map ρ=rs) (hK:K ((Res.ret v []).eff rs)):zgn P G f args' hp nk K :=
 zh5 h hGF hm ρ hlow ea hat hinj (by rw [zax hv,er];exact hK)
theorem zsy {f:FuncId} {caps caps':Array Value} {m:List (Nat×Blk)} {B:Nat} {xs:List (Array Value)} {hp:Hp} {rs:List Nat} (h:IterK P G f caps (hpL G m) (zab m) xs) (hGF:zbm G) (hm:LOk m B) (ρ:Nat->Nat) (hlow:∀ k,k<100->ρ k=k) (ea:caps.map (zao ρ)=caps') (er:(zab m).map ρ=rs)
  (hp0:∀ k,k<100->hp k=G k) (hat:∀ p∈m,100<=ρ p.1/\hp (ρ p.1)=some (p.2.rn ρ)) (hinj:∀ k∈zab m,∀ l∈zab m,ρ k=ρ l->k=l):IterK P G f caps' hp rs xs:=by
 subst ea er
 exact h.rn ρ hGF hm.low (zpl hm ρ hlow hp0 hat hinj)
end
section
variable {P:Program} {C:Ctx} {n:Nat} {d:List Deferred} {s:GS} {K:Exit->GS->Prop} {G:Hp}
theorem z0a (v:Value):zas (λk=>k) v=v:=by
 cases v with
 | agg cs=>simp only [zas];rw [Array.map_congr_left (λx _=>zkw x)];simp
 | _=>unfold zas;exact zkw _
theorem zkx (v:Value):ren (λk=>k) v=v:=by
 cases v with
 | tuple cs=>simp only [ren];rw [Array.map_congr_left (λx _=>z0a x)];simp
 | _=>unfold ren;exact z0a _
theorem Blk.rn_id (b:Blk):b.rn (λk=>k)=b:=by
 obtain ⟨c,T⟩:=b
 cases T with
 | ty t=>simp only [Blk.rn];rw [Array.map_congr_left (λx _=>zkw x)];simp
 | raw t fr=>rfl
 | mp=>simp only [Blk.rn];rw [Array.map_congr_left (λx _=>zkw x)];simp
theorem jbd {l l2:List (Nat×Value)} {u:Nat}:tsL (l++l2) u=tsL l u\/(u,tsL (l++l2) u)∈l2:=by
 induction l with
 | nil =>
  rcases zf5 (l:=l2) (t:=u) with h|h
  ·exact .inl h
  ·exact .inr h
 | cons p l ih =>
  obtain ⟨k,v⟩:=p
  rw [List.cons_append,znu,znu]
  by_cases h:u=k
  ·left;rw [if_pos h,if_pos h]
  ·rw [if_neg h,if_neg h];exact ih
theorem zlh {t:Tmp} {ps:Array Tmp} {assign body:Code} {f:FuncId} {caps:Array Value} {rs:List Nat} {xs:List (Array Value)} {m0:List (Nat×Blk)} (asd:List Nat) (hGF:zbm G) (hG:C.G=G) (h0:C.hp0=hpL G m0) (hY:C.Y=none) (hg:s.ts t=.func (.func f) #[] caps) (hit:IterK P G f caps s.hp rs xs)
  (hxs:∀ x∈xs,x.size=ps.size/\∀ v∈x,za0 v=true) (hps:∀ p∈ps,p<n) (l l2:List (Nat×Value)) (m:Nat->List (Nat×Blk)) (B:Nat) (N:Nat) (hN:N<=xs.length) (hB:100<=B)
  (hras:∀ k∈rs,k∈asd) (has:∀ k∈asd,100<=k/\dom s.hp k/\k<B) (hcl:∀ k∈asd,∀ b,s.hp k=some b->b.ids λq=>q∈asd)
  (hl:∀ p∈l,s.ts p.1=p.2) (hl2:∀ p∈l2,s.ts p.1=p.2/\zap (λq=>q∈asd) p.2)
  (hm0:∀ p∈m 0,s.hp p.1=some p.2) (hm:∀ i,i<=N->(∀ p∈l,zap (dom (hpL G (m i))) p.2)/\∀ p∈m i,100<=p.1/\p.1<B/\p.1∉asd/\p.2.ids (dom (hpL G (m i))))
  (hk:∀ p∈m0,p.1∈asd\/(100<=p.1/\hpL G (m 0) p.1=s.hp p.1/\∀ i,i<=N->dom (hpL G (m i)) p.1))
  (rounds:∀ i x,i<N->xs[i]? = some x->∀ (C1:Ctx) (j:Nat),C1.G=G->C1.hp0=hpL G (m i)->C1.Y=none->GW P C1 n [] (some j) assign ⟨za3 ps.toList x.toList (tsL l),hpL G (m i),B,0⟩
   (zcy (λs1=>∀ C2:Ctx,C2.G=G->C2.hp0=hpL G (m i)->C2.Y=none->GW P C2 n [] (some j) body s1 (zcy (λs2=>∀ p∈m (i+1),s2.hp p.1=some p.2) (λ_ _=>False))) (λ_ _=>False)))
  (fin:(N=xs.length/\K .normal ⟨tsL (l++l2),zb9 asd s.hp (hpL G (m N)),B,s.yc⟩)\/∃ x,xs[N]? = some x/\∀ (C1:Ctx) (j:Nat),C1.G=G->C1.hp0=hpL G (m N)->C1.Y=none->GW P C1 n [] (some j) assign ⟨za3 ps.toList x.toList (tsL l),hpL G (m N),B,0⟩
    (zcy (λs1=>∀ C2:Ctx,C2.G=G->C2.hp0=hpL G (m N)->C2.Y=none->GW P C2 n [] (some j) body s1 (λe s2=>(zb7 e).isSome=true/\(∀ p∈l,zap (dom s2.hp) p.2)/\(∀ k∈asd,s2.hp k=none/\k<s2.B)/\K e ⟨tsL (l++l2),zb9 asd s.hp s2.hp,s2.B,s.yc⟩)) (λ_ _=>False))) :
  GW P C n d none (.rangeFunc (.tmp t) ps assign body) s K:=by
 have asn:∀ i,i<=N->∀ k∈asd,hpL G (m i) k=none:=λi hi k hk1=>by
  cases hb:hpL G (m i) k with
  | none=>rfl
  | some b =>
   rcases za8 hb with h|h
   ·exact absurd hk1 ((hm i hi).2 _ h).2.2.1
   ·have:=(hGF k b h).1;have:=(has k hk1).1;omega
 have keepW:∀ i,i<=N->∀ C0:Ctx,C0.G=C.G->(C0.hp0=λk=>if k∈asd then none else C.hp0 k)->∀ s2:GS,s2.yc=s.yc->(∀ p∈m i,s2.hp p.1=some p.2)->s2.ts=tsL l->WeakR C0 (λk=>k) s2 ⟨tsL l,hpL G (m i),B,s.yc⟩:=λi hi C0 c1 c2 s2 hyc hs ht=>by
  refine ⟨λu=>?_,λk b hb h1=>⟨?_,h1⟩,λk b hb=>?_,λk q _ _ e=>e,λ_ _=>rfl,λk b _ _=>Blk.rn_id b,λk h1 hd=>⟨?_,rfl⟩,λk h1=>?_,hyc.symm,λx hx=>?_,hB⟩
  ·rcases zf5 (l:=l) (t:=u) with h|h
   ·exact .inl h
   ·by_cases hj:tsL l u=zbz
    ·exact .inl hj
    ·exact .inr ⟨by rw [ht,zkx],by rw [ht];exact hj,(hm i hi).1 _ h⟩
  ·rw [Blk.rn_id]
   rcases za8 hb with h|h
   ·exact hs _ h
   ·have:=(hGF k b h).1;omega
  ·rcases za8 hb with h|h
   ·exact ((hm i hi).2 _ h).2.2.2
   ·exact Blk.flat_ids (hGF k b h).2
  ·have hna:k∉asd:=λhm1=>by
    have h2:C0.hp0 k≠none:=hd
    rw [c2] at h2;exact h2 (if_pos hm1)
   have h2:C0.hp0 k≠none:=hd
   rw [c2] at h2
   simp only [if_neg hna] at h2
   rw [h0] at h2
   cases hb:hpL G m0 k with
   | none=>exact absurd hb h2
   | some b =>
    rcases za8 hb with h|h
    ·rcases hk _ h with h3|h3
     ·exact absurd h3 hna
     ·exact h3.2.2 i hi
    ·have:=(hGF k b h).1;omega
  ·rw [c1,hG];exact za6 (λp hp=>((hm i hi).2 p hp).1) h1
  ·dsimp only at hx |-
   cases hb:hpL G (m i) x with
   | none=>rfl
   | some b =>
    rcases za8 hb with h|h
    ·have:=((hm i hi).2 _ h).2.1;simp at this;omega
    ·have:=(hGF x b h).1;omega
 refine zwr (rs:=rs) (xs:=xs) asd hY hg (hG.symm▸hit) hxs hps (tsL l) (tsL (l++l2)) (λi h=>h=hpL G (m i)) (hpS:=hpL G (m 0)) B N hN hras (λk hk1=>⟨(has k hk1).1,(has k hk1).2.1⟩) hcl (λC0 c1 c2=>?_) rfl (asn 0 (Nat.zero_le _)) (λu=>?_) (λi x hq hi hx hI C1 j c1 c2 c3=>?_) ?_
 ·refine ⟨λu=>?_,λk h1=>?_,(keepW 0 (Nat.zero_le _) C0 c1 c2 ⟨tsL l,s.hp,s.B,s.yc⟩ rfl hm0 rfl).ids,λk h1 hd=>?_,(keepW 0 (Nat.zero_le _) C0 c1 c2 ⟨tsL l,s.hp,s.B,s.yc⟩ rfl hm0 rfl).glob,rfl,(keepW 0 (Nat.zero_le _) C0 c1 c2 ⟨tsL l,s.hp,s.B,s.yc⟩ rfl hm0 rfl).free,hB⟩
  ·rcases zf5 (l:=l) (t:=u) with h|h
   ·exact .inl h
   ·exact .inr ⟨(hl _ h).symm,(hm 0 (Nat.zero_le _)).1 _ h⟩
  ·dsimp only
   cases hb:hpL G (m 0) k with
   | none=>exact .inl rfl
   | some b =>
    rcases za8 hb with h|h
    ·exact .inr (hm0 _ h).symm
    ·have:=(hGF k b h).1;omega
  ·have h2:C0.hp0 k≠none:=hd
   rw [c2] at h2
   have hna:k∉asd:=λhm1=>h2 (if_pos hm1)
   simp only [if_neg hna] at h2
   rw [h0] at h2
   cases hb:hpL G m0 k with
   | none=>exact absurd hb h2
   | some b =>
    rcases za8 hb with h|h
    ·rcases hk _ h with h3|h3
     ·exact absurd h3 hna
     ·exact h3.2.1
    ·have:=(hGF k b h).1;omega
 ·rcases jbd (l:=l) (l2:=l2) (u:=u) with h|h
  ·exact .inl h
  ·exact .inr ⟨(hl2 _ h).1.symm,by rw [(hl2 _ h).1];exact (hl2 _ h).2⟩
 ·subst hI
  refine zdu (rounds i x hi hx C1 j (c1.trans hG) c2 c3) λe s1 hs=>?_
  cases e with
  | normal =>
   intro C2 q1 q2 q3
   refine zdu (hs C2 (q1.trans hG) q2 q3) λe s2 hs2=>?_
   cases e with
   | normal=>exact ⟨λk=>k,_,λC0 z1 z2=>keepW (i+1) hi C0 z1 z2 _ rfl hs2 rfl,rfl⟩
   | _=>exact hs2.elim
  | _=>exact hs.elim
 ·rcases fin with ⟨f1,f2⟩|⟨x,f1,f2⟩
  ·exact .inl ⟨f1,λhq hI=>by subst hI;exact ⟨λk hk1=>⟨asn N (Nat.le_refl _) k hk1,(has k hk1).2.2⟩,f2⟩⟩
  ·refine .inr ⟨x,f1,λhq hI C1 j c1 c2 c3=>?_⟩
   subst hI
   refine zdu (f2 C1 j (c1.trans hG) c2 c3) λe s1 hs=>?_
   cases e with
   | normal =>
    intro C2 q1 q2 q3
    refine zdu (hs C2 (q1.trans hG) q2 q3) λe s2 hs2=>⟨hs2.1,λu=>?_,hs2.2.2.1,hs2.2.2.2⟩
    rcases zf5 (l:=l) (t:=u) with h|h
    ·rw [h];simp [zbz,zap,zau,zaj,zal]
    ·exact hs2.2.1 _ h
   | _=>exact hs.elim
end
end Go.Gy
namespace Go.Gy
open Go Go.RowKit
theorem kpS {G : Hp} {m : List (Nat × Blk)} (hGF : zbm G) {hp : Hp} (h1 : ∀ p ∈ m, hp p.1 = hpL G m p.1 := by simp) (h2 : ∀ k, k < 100 -> hp k = hpL G m k := by (intro k hk; first | rfl | (simp (disch := omega) only [zb9, List.mem_cons, List.not_mem_nil, or_false, zaa, zai, zat, if_neg, zaw] <;> done))) : ∀ k, dom (hpL G m) k -> hp k = hpL G m k := zdc hGF h1 h2
theorem kpT {G : Hp} {m : List (Nat × Blk)} (hGF : zbm G) {hp : Hp} (h1 : ∀ p ∈ m, hp p.1 = hpL G m p.1 := by (intro p hp; have hpb := hT.ok.big p hp; first | rfl | (simp (disch := omega) only [zb9, zaa, zai, zat, if_neg, zaw, List.cons_append, List.nil_append] <;> done))) (h2 : ∀ k, k < 100 -> hp k = hpL G m k := by (intro k hk; first | exact hLow k hk | (simp (disch := omega) only [hLow, zb9, List.mem_cons, List.not_mem_nil, or_false, zaa, zai, zat, if_neg, zaw, List.cons_append, List.nil_append] <;> done))) : ∀ k, dom (hpL G m) k -> hp k = hpL G m k := zdc hGF h1 h2
theorem zby {L : List (Nat × Blk)} {hp : Hp} (h : ∀ p ∈ L, hp p.1 = some p.2 := by (intro p hp; have hpb := hT.ok.big p hp; (try dsimp only); simp (disch := omega) only [zb9, zaa, zai, zat, if_neg, zaw, List.cons_append, List.nil_append]; first | exact hT.mem p hp | exact cL p hp)) : ∀ p ∈ L, hp p.1 = some p.2 := h
end Go.Gy
namespace Go.Gy
open Go Go.RowKit Go.Proofs.Tryz
theorem follows:prog.follows .mixedOrders=true:=by kernel_rfl
section
variable {P:Program} {C:Ctx} {n:Nat} {d:List Deferred} {ro:Option Nat} {s:GS} {K:Exit->GS->Prop}
theorem gwS {x y:Code} (h:GW P C n d ro x s (zcy (λs'=>GW P C n d ro y s' K) K)):GW P C n d ro (.seq x y) s K:=zf6 h
theorem gwK (h:K .normal s):GW P C n d ro .skip s K:=zwv h
theorem gwT (h:K .ret s):GW P C n d ro .ret s K:=zwu h
theorem gwE {id:Nat} (h:K (.exit id) s):GW P C n d ro (.exit id) s K:=z71 h
theorem gwG {id:Nat} (h:K (.goto id) s):GW P C n d ro (.goto id) s K:=z72 h
theorem gwL {id:Nat} (h:K .normal s):GW P C n d ro (.label id) s K:=zsf h
theorem gwB {id:Nat} {c:Code} (h:GW P C n d ro c s (zey id K)):GW P C n d ro (.block id c) s K:=z16 h
theorem gwC {t:Tmp} {x y:Code} {b:Bool} (ht:b=true->GW P C n d ro x s K) (hf:b=false->GW P C n d ro y s K) (hb:s.ts t=.bool b:=by simp;rfl):GW P C n d ro (.cond (.tmp t) x y) s K:=zqc hb ht hf
theorem gwR {id:Nat} {l:List Oper} (pn:List FuncId) (h:∀ (Q:QQ),(∀ ts hp tr yc,true=true->K .normal ⟨ts,hp,s.B+8*l.length,yc⟩->Q.q ts hp tr yc)->(∀ pv tr,true=true->(∀ yc,K (.panic [{ v:=pv,recovered:=false }]) ⟨zh9 l s.ts,s.hp,s.B,yc⟩)->Q.p pv tr)->zhu P C.G ⟨C.Y,pn,false⟩ s.B Q [] 0 l s.ts s.hp [] s.yc false false)
  (hdst:(zhd n l&&zrz P l)=true:=by kernel_rfl):GW P C n d ro (.region id l.toArray false) s K:=zck pn hdst λQ hQ hP=>h Q (λts hp tr yc _=>hQ ts hp tr yc) (λpv tr _=>hP pv tr)
theorem gwD {id:Nat} {l:List Oper} (pn:List FuncId) (h:∀ (Q:QQ),(∀ ts hp tr yc,chk .any l.toArray tr=true->K .normal ⟨ts,hp,s.B+8*l.length,yc⟩->Q.q ts hp tr yc)->(∀ pv tr,chk .any l.toArray tr=true->(∀ yc,K (.panic [{ v:=pv,recovered:=false }]) ⟨zh9 l s.ts,s.hp,s.B,yc⟩)->Q.p pv tr)->zhu prog C.G ⟨C.Y,pn,true⟩ s.B Q [] 0 l s.ts s.hp [] s.yc false false)
  (hB:Region.lexFrom .any l.toArray l.length 0 (Array.replicate l.length false)=true:=by kernel_rfl) (hdst:(zhd n l&&zrz prog l)=true:=by kernel_rfl):GW prog C n d ro (.region id l.toArray true) s K:=z17 pn follows hB hdst h
theorem wM:(∀ (a:Oper) (l:List Oper),(a::l).length=l.length+1)/\([]:List Oper).length=0:=⟨λ_ _=>rfl,rfl⟩
end
@[simp] theorem ts1:zaz prog 1=some 1:=zaq sizeOf1
@[simp] theorem ts2:zaz prog 2=some 1:=zaq sizeOf2
@[simp] theorem tz3:zbq prog 3=some (.int .i64 0):=zdd zeroValue3
@[simp] theorem ts3:zaz prog 3=some 1:=zaq sizeOf3
@[simp] theorem lb3:∀ c off,zc3 prog 3 c off=zp8 c[off]?:=zdy (zbv isAgg3)
@[simp] theorem tz4:zbq prog 4=some (.bool false):=zdd zeroValue4
@[simp] theorem ts4:zaz prog 4=some 1:=zaq sizeOf4
@[simp] theorem lb4:∀ c off,zc3 prog 4 c off=zp8 c[off]?:=zdy (zbv isAgg4)
@[simp] theorem bo4:zmx prog 4=true:=z2r underlying4
@[simp] theorem ts9:zaz prog 9=some 1:=zaq sizeOf9
@[simp] theorem lb9:∀ c off,zc3 prog 9 c off=zp8 c[off]?:=zdy (zbv isAgg9)
@[simp] theorem jq4:∀ c off,zc3 prog 22 c off=zp8 c[off]?:=zdy (zbv isAgg22)
@[simp] theorem jr2:zbq prog 24=some (.agg #[.slice none 0 0,.int .i64 0,.int .i64 0,.int .i64 0,.int .i64 0,.int .i64 0]):=zdd zeroValue24
@[simp] theorem jqf:zaz prog 24=some 6:=zaq sizeOf24
@[simp] theorem jq5:∀ c off,zc3 prog 24 c off=if off+6<=c.size then some (.agg (c.extract off (off+6))) else none:=zez (zbv isAgg24) jqf
@[simp] theorem jnr:fdX prog 24 0=some (22,0):=by simp only [fdX,underlying24,zaq sizeOf22];kernel_rfl
@[simp] theorem jns:fdX prog 24 1=some (3,1):=by simp only [fdX,underlying24,zaq sizeOf3];kernel_rfl
@[simp] theorem jnt:fdX prog 24 2=some (3,2):=by simp only [fdX,underlying24,zaq sizeOf3];kernel_rfl
@[simp] theorem jnu:fdX prog 24 3=some (3,3):=by simp only [fdX,underlying24,zaq sizeOf3];kernel_rfl
@[simp] theorem jnv:fdX prog 24 4=some (3,4):=by simp only [fdX,underlying24,zaq sizeOf3];kernel_rfl
@[simp] theorem jnw:fdX prog 24 5=some (3,5):=by simp only [fdX,underlying24,zaq sizeOf3];kernel_rfl
@[simp] theorem jrl:zcn prog 24=some (.inl [(0,1),(1,1),(2,1),(3,1),(4,1),(5,1)]):=by simp only [zcn,underlying24];kernel_rfl
@[simp] theorem jrw:zaz prog 25=some 1:=zaq sizeOf25
@[simp] theorem jq6:∀ c off,zc3 prog 25 c off=zp8 c[off]?:=zdy (zbv isAgg25)
@[simp] theorem jqd:zmj prog 25=true:=by kernel_rfl
@[simp] theorem jr3:zbq prog 27=some (.agg #[.int .i64 0,.slice none 0 0]):=zdd zeroValue27
@[simp] theorem jqg:zaz prog 27=some 2:=zaq sizeOf27
@[simp] theorem jq7:∀ c off,zc3 prog 27 c off=if off+2<=c.size then some (.agg (c.extract off (off+2))) else none:=zez (zbv isAgg27) jqg
@[simp] theorem jnx:fdX prog 27 0=some (3,0):=by simp only [fdX,underlying27,zaq sizeOf3];kernel_rfl
@[simp] theorem jny:fdX prog 27 1=some (25,1):=by simp only [fdX,underlying27,zaq sizeOf25];kernel_rfl
@[simp] theorem jrm:zcn prog 27=some (.inl [(0,1),(1,1)]):=by simp only [zcn,underlying27];kernel_rfl
@[simp] theorem jr4:zbq prog 31=some (.agg #[.int .i64 0,.int .i64 0,.int .i64 0]):=zdd zeroValue31
@[simp] theorem jqh:zaz prog 31=some 3:=zaq sizeOf31
@[simp] theorem jq8:∀ c off,zc3 prog 31 c off=if off+3<=c.size then some (.agg (c.extract off (off+3))) else none:=zez (zbv isAgg31) jqh
@[simp] theorem jrn:zcn prog 31=some (.inr 1):=zgu underlying31 (zaq sizeOf3)
@[simp] theorem jpa:jh2 prog 31=some 3:=by kernel_rfl
@[simp] theorem jqz:zxd prog 31=some 3:=zxe underlying31 underlying3 (zaq sizeOf3) eqGuardType31
@[simp] theorem jr5:zbq prog 32=some (.int .i64 0):=zdd zeroValue32
@[simp] theorem jrx:zaz prog 32=some 1:=zaq sizeOf32
@[simp] theorem jq9:∀ c off,zc3 prog 32 c off=zp8 c[off]?:=zdy (zbv isAgg32)
@[simp] theorem jr6:zbq prog 35=some (.slice none 0 0):=zdd zeroValue35
@[simp] theorem jry:zaz prog 35=some 1:=zaq sizeOf35
@[simp] theorem jra:∀ c off,zc3 prog 35 c off=zp8 c[off]?:=zdy (zbv isAgg35)
@[simp] theorem jr7:zbq prog 45=some (.agg #[.int .i64 0,.int .i64 0,.int .i64 0,.int .i64 0,.int .i64 0,.int .i64 0]):=zdd zeroValue45
@[simp] theorem jrz:zaz prog 45=some 6:=zaq sizeOf45
@[simp] theorem jnz:fdX prog 45 0=some (31,0):=by simp only [fdX,underlying45,zaq sizeOf31];kernel_rfl
@[simp] theorem jn0:fdX prog 45 1=some (31,3):=by simp only [fdX,underlying45,zaq sizeOf31];kernel_rfl
@[simp] theorem jpb:zxd prog 45=none:=by kernel_rfl
@[simp] theorem jqe:zns prog 45=some [(31,0),(31,3)]:=by kernel_rfl
@[simp] theorem jro:zcn prog 45=some (.inl [(0,3),(3,3)]):=by simp only [zcn,underlying45];kernel_rfl
@[simp] theorem jr0:zaz prog 84=some 1:=zaq sizeOf84
@[simp] theorem jrb:∀ c off,zc3 prog 84 c off=zp8 c[off]?:=zdy (zbv isAgg84)
@[simp] theorem jr8:zbq prog 86=some (.agg #[.int .u64 0,.int .u64 0,.int .u64 0,.int .u64 0]):=zdd zeroValue86
@[simp] theorem jqi:zaz prog 86=some 4:=zaq sizeOf86
@[simp] theorem jrc:∀ c off,zc3 prog 86 c off=if off+4<=c.size then some (.agg (c.extract off (off+4))) else none:=zez (zbv isAgg86) jqi
@[simp] theorem jrp:zcn prog 86=some (.inr 1):=zgu underlying86 (zaq sizeOf84)
@[simp] theorem jq0:zxd prog 86=some 4:=zxe underlying86 underlying84 (zaq sizeOf84) eqGuardType86
@[simp] theorem jrd:∀ c off,zc3 prog 93 c off=zp8 c[off]?:=zdy (zbv isAgg93)
@[simp] theorem jr1:zaz prog 96=some 2:=zaq sizeOf96
@[simp] theorem jn1:fdX prog 96 0=some (3,0):=by simp only [fdX,underlying96,zaq sizeOf3];kernel_rfl
@[simp] theorem jn2:fdX prog 96 1=some (3,1):=by simp only [fdX,underlying96,zaq sizeOf3];kernel_rfl
@[simp] theorem jmw:zaz prog 104=some 7:=zaq sizeOf104
@[simp] theorem jpn:∀ c off,zc3 prog 104 c off=if off+7<=c.size then some (.agg (c.extract off (off+7))) else none:=zez (zbv isAgg104) jmw
@[simp] theorem jqj:zbq prog 116=some (.agg #[.int .u64 0,.int .u64 0,.int .u64 0,.int .u64 0,.int .u64 0,.int .u64 0,.int .u64 0,.int .u64 0,.int .u64 0,.int .u64 0,.int .u64 0,.int .u64 0,.int .u64 0,.int .u64 0,.int .u64 0,.int .u64 0]):=zdd zeroValue116
@[simp] theorem jmx:zaz prog 116=some 16:=zaq sizeOf116
@[simp] theorem jpo:∀ c off,zc3 prog 116 c off=if off+16<=c.size then some (.agg (c.extract off (off+16))) else none:=zez (zbv isAgg116) jmx
@[simp] theorem jqk:zbq prog 118=some (.agg #[.int .u64 0,.int .u64 0,.int .u64 0,.int .u64 0,.int .u64 0,.int .u64 0,.int .u64 0,.int .u64 0]):=zdd zeroValue118
@[simp] theorem jmy:zaz prog 118=some 8:=zaq sizeOf118
@[simp] theorem jpp:∀ c off,zc3 prog 118 c off=if off+8<=c.size then some (.agg (c.extract off (off+8))) else none:=zez (zbv isAgg118) jmy
@[simp] theorem jpy:zcn prog 118=some (.inr 1):=zgu underlying118 (zaq sizeOf84)
end Go.Gy
namespace Go.Gy
open Go Go.RowKit
theorem gwq {Q : QQ} {c : Tr -> Prop} {K : (Nat -> Value) -> Hp -> Nat -> Prop} (hQ : ∀ ts hp tr yc, c tr -> K ts hp yc -> Q.q ts hp tr yc) {ts : Nat -> Value} {hp : Hp} {tr : Tr} {yc : Nat} (k : K ts hp yc) (h : c tr := by kernel_rfl) : Q.q ts hp tr yc := hQ _ _ _ _ h k
theorem gwX {P Q : Prop} (q : Q) (h : Q -> P := by first | exact gwR [] | exact gwD []) : P := h q
theorem gwA {P Q : Prop} (q : Q) (h : Q -> P := by first | exact gwS | (intro q; simp only [wN, wM, Nat.reduceAdd, Nat.reduceMul]; exact q) | exact gwB | exact gwT | exact gwK | exact gwE | exact gwG | exact gwL | (intro q; simp only [zd6]; exact q)) : P := h q
end Go.Gy
namespace Go.Gy
open Go Go.RowKit
section
variable {P : Program} {C : Ctx} {n : Nat} {d : List Deferred} {ro : Option Nat} {s : GS} {K : Exit -> GS -> Prop}
theorem jpl {t : Tmp} {x y : Code} (h : GW P C n d ro x s K) (hb : s.ts t = .bool true) : GW P C n d ro (.cond (.tmp t) x y) s K := zqc hb (λ_ => h) (λe => nomatch e)
theorem jpk {t : Tmp} {x y : Code} (h : GW P C n d ro y s K) (hb : s.ts t = .bool false) : GW P C n d ro (.cond (.tmp t) x y) s K := zqc hb (λe => nomatch e) (λ_ => h)
end
theorem gwZ {P Q : Prop} (q : Q) (h : Q -> P := by first | exact gwS | (intro q; simp only [wN, wM, Nat.reduceAdd, Nat.reduceMul]; exact q) | exact gwB | exact gwT | exact gwK | exact gwE | exact gwG | exact gwL | (intro q; refine jpl q ?_; simp; done) | (intro q; refine jpk q ?_; simp; done) | (intro q; simp only [zd6]; exact q)) : P := h q
theorem gwW {P Q : Prop} (q : Q) (h : Q -> P := by intro q; refine gwX ?_; intro Q hQ _; simp [hC, hY]; refine gwq hQ ?_; exact q) : P := h q
theorem gwV {P Q : Prop} (q : Q) (h : Q -> P := by intro q; refine gwX ?_; intro Q hQ _; simp [hC, hY, hA, hS, hne, hna]; refine gwq hQ ?_; exact q) : P := h q
end Go.Gy
namespace Go.Gy
open Go Go.RowKit Go.Proofs Go.Proofs.Tryz
def lsB:Blk:=⟨#[.int .u64 0,.int .u64 0,.int .u64 0,.int .u64 9223372036854775808],.ty 86⟩
def cnB:Blk:=⟨#[.string ⟨#[98,111,100,105,101,115]⟩,.string ⟨#[109,97,115,115]⟩,.string ⟨#[99,111,110,115,116,97,110,116]⟩,.string ⟨#[98,111,120]⟩,.string ⟨#[116,111,112]⟩,.string ⟨#[110,101,97,114]⟩,.string ⟨#[109,101,116,104,111,100]⟩],.ty 104⟩
def G0L:List (Nat×Blk) :=
 (2,lsB) ::
 (1,cnB) ::
 []
def G0:Hp:=hpL (λ_=>none) G0L
theorem zsa {k:Nat} {b:Blk} (h:G0 k=some b):(k,b)∈G0L:=(za8 h).resolve_right (λh=>nomatch h)
theorem G0F:zbm G0:=λk b h=>by
 have h1:∀ p∈G0L,p.1<100/\∀ x∈p.2.c,zbj x=true:=by
  simp [G0L,lsB
   ,cnB
  ]
 exact h1 _ (zsa h)
@[simp] theorem zr9 (k:Nat) (h:100<=k):G0 k=none:=by
 cases hb:G0 k with
 | none=>rfl
 | some b=>have:=(G0F k b hb).1;omega
theorem zlg {k:Nat} (h:dom G0 k):k<100:=by
 refine Classical.byContradiction λhk=>?_
 exact h (zr9 k (by omega))
theorem zew (D:Nat->Prop) (k:Nat) (b:Blk) (h:G0 k=some b):b.ids D:=Blk.flat_ids ((G0F k b h).2)
@[simp] theorem jhw:G0 2=some lsB:=by simp [G0,G0L]
@[simp] theorem jhx:G0 1=some cnB:=by simp [G0,G0L]
theorem G0W:∃ W,GOK G0 W:=⟨{ (default:World) with heap:=Array.ofFn (n:=100) λk=>match G0 k.1 with|some b=>b.obj0|none=>.cells #[] 0 (0,0) },λk b h=>by
 have hk:=(G0F k b h).1
 simp [hk,h]⟩

def wd (z:Int):Value:=.agg #[.int .u64 (wi z 0),.int .u64 (wi z 1),.int .u64 (wi z 2),.int .u64 (wi z 3)]
@[simp] theorem jbj (z:Int):wd z=.agg #[.int .u64 (wi z 0),.int .u64 (wi z 1),.int .u64 (wi z 2),.int .u64 (wi z 3)]:=rfl
def dg (z:Int):Value:=.agg #[.int .u64 (di z 0),.int .u64 (di z 1),.int .u64 (di z 2),.int .u64 (di z 3),.int .u64 (di z 4),.int .u64 (di z 5),.int .u64 (di z 6),.int .u64 (di z 7)]
@[simp] theorem jpg (z:Int):dg z=.agg #[.int .u64 (di z 0),.int .u64 (di z 1),.int .u64 (di z 2),.int .u64 (di z 3),.int .u64 (di z 4),.int .u64 (di z 5),.int .u64 (di z 6),.int .u64 (di z 7)]:=rfl
def ng (z:Int):Bool:=decide (9223372036854775808<=wi z 3)

theorem dw0 (z:Int):wi z 0%4294967296=di z 0:=by simp only [wi,di];omega
theorem dw1 (z:Int):wi z 0 / 4294967296=di z 1:=by simp only [wi,di];omega
theorem dw2 (z:Int):wi z 1%4294967296=di z 2:=by simp only [wi,di];omega
theorem dw3 (z:Int):wi z 1 / 4294967296=di z 3:=by simp only [wi,di];omega
theorem dw4 (z:Int):wi z 2%4294967296=di z 4:=by simp only [wi,di];omega
theorem dw5 (z:Int):wi z 2 / 4294967296=di z 5:=by simp only [wi,di];omega
theorem dw6 (z:Int):wi z 3%4294967296=di z 6:=by simp only [wi,di];omega
theorem dw7 (z:Int):wi z 3 / 4294967296=di z 7:=by simp only [wi,di];omega
theorem wd0 (z:Int):di z 1*4294967296+di z 0=wi z 0:=by rw [<-dw0,<-dw1];omega
theorem wd1 (z:Int):di z 3*4294967296+di z 2=wi z 1:=by rw [<-dw2,<-dw3];omega
theorem wd2 (z:Int):di z 5*4294967296+di z 4=wi z 2:=by rw [<-dw4,<-dw5];omega
theorem wd3 (z:Int):di z 7*4294967296+di z 6=wi z 3:=by rw [<-dw6,<-dw7];omega
theorem wim (z:Int) (k:Nat):wi z k%18446744073709551616=wi z k:=Int.emod_emod_of_dvd _ (Int.dvd_refl _)

@[simp] theorem jnc (z b:Int) (k:Nat):(wi z k).tmod b=wi z k%b:=Int.tmod_eq_emod_of_nonneg (zbp z k)
@[simp] theorem jnb (z b:Int) (k:Nat):(wi z k).tdiv b=wi z k / b:=Int.tdiv_eq_ediv_of_nonneg (zbp z k)
theorem z3w (z:Int):Ret prog G0 106 #[wd z] (.bool (ng z)):=by
 refine zav G0F func106 rfl call106 rfl (by simp) (by simp [ntmps106]) ?_
 intro C hC _ hY
 repeat' first|refine gwZ ?_|refine gwW ?_|refine gwC ?_ ?_<;>intro hb
 refine ⟨.inr trivial,?_⟩
 simp [results106,ng]
 have:=zbp z 3
 have:=zbx z 3
 rw [Int.fdiv_eq_ediv_of_nonneg _ (by omega)]
 rw [Bool.eq_iff_iff]
 simp
 omega
@[simp] theorem jre (z:Int) (K:Value->Prop):za2 prog G0 106 #[.agg #[.int .u64 (wi z 0),.int .u64 (wi z 1),.int .u64 (wi z 2),.int .u64 (wi z 3)]] K↔K (.bool (ng z)):=zaf G0W (by kernel_rfl) (z3w z)

theorem zun (z:Int):Ret prog G0 111 #[wd z] (dg z):=by
 refine zav G0F func111 rfl call111 (by simp) (by simp) (by simp [ntmps111]) ?_
 intro C hC _ hY
 repeat' first|refine gwZ ?_|(refine gwX ?_;intro Q hQ _;simp [hC,hY,dw0,dw1,dw2,dw3,dw4,dw5,dw6,dw7];refine gwq hQ ?_)|refine gwC ?_ ?_<;>intro hb
 refine ⟨.inr trivial,?_⟩
 simp [results111,dw0,dw1,dw2,dw3,dw4,dw5,dw6,dw7]
@[simp] theorem jnp (z:Int) (K:Value->Prop):za2 prog G0 111 #[.agg #[.int .u64 (wi z 0),.int .u64 (wi z 1),.int .u64 (wi z 2),.int .u64 (wi z 3)]] K↔K (dg z):=zaf G0W (by kernel_rfl) (zun z)

theorem z1i (z:Int):Ret prog G0 105 #[dg z] (wd z):=by
 refine zav G0F func105 rfl call105 (by simp) (by simp) (by simp [ntmps105]) ?_
 intro C hC _ hY
 repeat' first|refine gwZ ?_|refine gwW ?_|refine gwC ?_ ?_<;>intro hb
 refine ⟨.inr trivial,?_⟩
 simp [results105,wd0,wd1,wd2,wd3,wim]
@[simp] theorem jqw (z:Int) (K:Value->Prop):za2 prog G0 105 #[Value.agg #[.int .u64 (di (z) 0),.int .u64 (di (z) 1),.int .u64 (di (z) 2),.int .u64 (di (z) 3),.int .u64 (di (z) 4),.int .u64 (di (z) 5),.int .u64 (di (z) 6),.int .u64 (di (z) 7)]] K↔K (wd z):=zaf G0W (by kernel_rfl) (z1i z)

def zzu (z y c:Int) (i:Nat):GS :=
 ⟨tsL [(3,.pointer (some ⟨200,0,none⟩)),(4,.pointer (some ⟨208,0,none⟩)),(6,.pointer (some ⟨216,0,none⟩)),(7,.int .i64 i),(2,.int .u64 (car z y c i))],
 hpL G0 [(200,⟨#[.int .u64 (if 0<i then di (z+y+c) 0 else di z 0),.int .u64 (if 1<i then di (z+y+c) 1 else di z 1),.int .u64 (if 2<i then di (z+y+c) 2 else di z 2),.int .u64 (if 3<i then di (z+y+c) 3 else di z 3),
   .int .u64 (if 4<i then di (z+y+c) 4 else di z 4),.int .u64 (if 5<i then di (z+y+c) 5 else di z 5),.int .u64 (if 6<i then di (z+y+c) 6 else di z 6),.int .u64 (if 7<i then di (z+y+c) 7 else di z 7)],.ty 118⟩),
  (208,⟨#[.int .u64 (di y 0),.int .u64 (di y 1),.int .u64 (di y 2),.int .u64 (di y 3),.int .u64 (di y 4),.int .u64 (di y 5),.int .u64 (di y 6),.int .u64 (di y 7)],.ty 118⟩),
  (216,⟨#[.int .u64 0,.int .u64 0,.int .u64 0,.int .u64 0,.int .u64 0,.int .u64 0,.int .u64 0,.int .u64 0],.ty 118⟩)],300,0⟩
theorem zzt (z y c:Int) (h0:0<=c) (h1:c<=1):Ret prog G0 110 #[dg z,dg y,.int .u64 c] (dg (z+y+c)):=by
 refine zav G0F func110 rfl call110 (by simp) (by simp) (by simp [ntmps110]) ?_
 intro C hC hC0 hY
 repeat' first|refine gwZ ?_|refine gwW ?_|refine gwC ?_ ?_<;>intro hb
 refine zb3 8 (zzu z y c) ?_ ?_ ?_
 ·refine zbc _ 300 hC G0F (m0:=[]) hC0 (by omega) ?_ ?_ ?_
  ·simp [zap,zau,zaj,zal,dom,zsn]
  ·simp [Blk.ids,zaj,zal]
  ·simp
 ·intro i hi
  have:i=0\/i=1\/i=2\/i=3\/i=4\/i=5\/i=6\/i=7:=by omega
  have A:=jkt z y c h0 h1
  have A':=jpf z y c h0 h1
  rcases this with rfl|rfl|rfl|rfl|rfl|rfl|rfl|rfl<;>unfold zzu
  all_goals
   repeat' first|refine gwZ ?_|refine gwW ?_|refine gwC ?_ ?_<;>intro hb
  all_goals
   refine zbc _ 300 hC G0F (m0:=[]) hC0 (by omega) ?_ ?_ ?_
   ·simp [zap,zau,zaj,zal,dom,A,A']
   ·simp [Blk.ids,zaj,zal,A,A']
   ·simp
 ·unfold zzu
  repeat' first|refine gwZ ?_|refine gwW ?_|refine gwC ?_ ?_<;>intro hb
  refine ⟨.inr trivial,?_⟩
  simp [results110]
@[simp] theorem jl6 (z y c:Int) (h0:0<=c) (h1:c<=1) (K:Value->Prop):za2 prog G0 110 #[Value.agg #[.int .u64 (di (z) 0),.int .u64 (di (z) 1),.int .u64 (di (z) 2),.int .u64 (di (z) 3),.int .u64 (di (z) 4),.int .u64 (di (z) 5),.int .u64 (di (z) 6),.int .u64 (di (z) 7)],Value.agg #[.int .u64 (di (y) 0),.int .u64 (di (y) 1),.int .u64 (di (y) 2),.int .u64 (di (y) 3),.int .u64 (di (y) 4),.int .u64 (di (y) 5),.int .u64 (di (y) 6),.int .u64 (di (y) 7)],.int .u64 c] K↔K (dg (z+y+c)):=zaf G0W (by kernel_rfl) (zzt z y c h0 h1)

theorem jph (z:Int) (k:Nat):4294967295 - di z k=di (-z - 1) k:=by
 unfold di
 generalize hM:(2:Int)^(32*k)=M
 have hp:0<M:=hM▸zbk k
 have e:(-z - 1) / M=-(z / M) - 1:=by
  have h1:=Int.emod_add_mul_ediv z M
  have h2:=Int.emod_nonneg z (b:=M) (by omega)
  have h3:=Int.emod_lt_of_pos z hp
  have:-z - 1=(M - 1 - z%M)+M*(-(z / M) - 1):=by rw [Int.mul_sub,Int.mul_neg];omega
  rw [this,Int.add_mul_ediv_left _ _ (by omega),Int.ediv_eq_zero_of_lt (by omega) (by omega)]
  omega
 rw [e]
 omega
def z9z (z:Int) (i:Nat):GS :=
 ⟨tsL [(1,.pointer (some ⟨200,0,none⟩)),(2,.pointer (some ⟨208,0,none⟩)),(3,.int .i64 i)],
 hpL G0 [(200,⟨#[.int .u64 (if 0<i then di (-z - 1) 0 else di z 0),.int .u64 (if 1<i then di (-z - 1) 1 else di z 1),.int .u64 (if 2<i then di (-z - 1) 2 else di z 2),.int .u64 (if 3<i then di (-z - 1) 3 else di z 3),
   .int .u64 (if 4<i then di (-z - 1) 4 else di z 4),.int .u64 (if 5<i then di (-z - 1) 5 else di z 5),.int .u64 (if 6<i then di (-z - 1) 6 else di z 6),.int .u64 (if 7<i then di (-z - 1) 7 else di z 7)],.ty 118⟩),
  (208,⟨#[.int .u64 0,.int .u64 0,.int .u64 0,.int .u64 0,.int .u64 0,.int .u64 0,.int .u64 0,.int .u64 0],.ty 118⟩)],300,0⟩
theorem z4b (z:Int):Ret prog G0 126 #[dg z] (dg (-z - 1)):=by
 refine zav G0F func126 rfl call126 (by simp) (by simp) (by simp [ntmps126]) ?_
 intro C hC hC0 hY
 repeat' first|refine gwZ ?_|refine gwW ?_|refine gwC ?_ ?_<;>intro hb
 refine zb3 8 (z9z z) ?_ ?_ ?_
 ·refine zbc _ 300 hC G0F (m0:=[]) hC0 (by omega) ?_ ?_ ?_
  ·simp [zap,zau,zaj,zal,dom]
  ·simp [Blk.ids,zaj,zal]
  ·simp
 ·intro i hi
  have:i=0\/i=1\/i=2\/i=3\/i=4\/i=5\/i=6\/i=7:=by omega
  rcases this with rfl|rfl|rfl|rfl|rfl|rfl|rfl|rfl<;>unfold z9z
  all_goals
   repeat' first|refine gwZ ?_|refine gwW ?_|refine gwC ?_ ?_<;>intro hb
  all_goals
   refine zbc _ 300 hC G0F (m0:=[]) hC0 (by omega) ?_ ?_ ?_
   ·simp [zap,zau,zaj,zal,dom]
   ·simp [Blk.ids,zaj,zal,jph]
   ·simp
 ·unfold z9z
  repeat' first|refine gwZ ?_|refine gwW ?_|refine gwC ?_ ?_<;>intro hb
  refine ⟨.inr trivial,?_⟩
  simp [results126]
@[simp] theorem jrj (z:Int) (K:Value->Prop):za2 prog G0 126 #[Value.agg #[.int .u64 (di (z) 0),.int .u64 (di (z) 1),.int .u64 (di (z) 2),.int .u64 (di (z) 3),.int .u64 (di (z) 4),.int .u64 (di (z) 5),.int .u64 (di (z) 6),.int .u64 (di (z) 7)]] K↔K (dg (-z - 1)):=zaf G0W (by kernel_rfl) (z4b z)

@[simp] theorem jkr (k:Nat):di 0 k=0:=by simp [di]
theorem z2e (a b:Int):Ret prog G0 83 #[wd a,wd b] (.tuple #[wd (a+b),.bool (ng a==ng b&&ng (a+b) != ng a)]):=by
 refine zav G0F func83 rfl call83 (by simp) (by simp) (by simp [ntmps83]) ?_
 intro C hC hC0 hY
 cases hb:(ng a==ng b)
 all_goals
  repeat' first|refine gwZ ?_|(refine gwX ?_;intro Q hQ _;simp [hC,hY,hb];refine gwq hQ ?_)|refine gwC ?_ ?_<;>intro hb
  refine ⟨.inr trivial,?_⟩
  simp [results83,hb]
@[simp] theorem jqy (a b:Int) (K:Value->Prop):za2 prog G0 83 #[Value.agg #[.int .u64 (wi (a) 0),.int .u64 (wi (a) 1),.int .u64 (wi (a) 2),.int .u64 (wi (a) 3)],Value.agg #[.int .u64 (wi (b) 0),.int .u64 (wi (b) 1),.int .u64 (wi (b) 2),.int .u64 (wi (b) 3)]] K↔K (.tuple #[wd (a+b),.bool (ng a==ng b&&ng (a+b) != ng a)]):=zaf G0W (by kernel_rfl) (z2e a b)
theorem z45 (a b:Int):Ret prog G0 151 #[wd a,wd b] (.tuple #[wd (a - b),.bool (ng a != ng b&&ng (a - b) != ng a)]):=by
 refine zav G0F func151 rfl call151 (by simp) (by simp) (by simp [ntmps151]) ?_
 intro C hC hC0 hY
 have e:a+(-b - 1)+1=a - b:=by omega
 cases hb:(ng a != ng b)
 all_goals
  repeat' first|refine gwZ ?_|(refine gwX ?_;intro Q hQ _;simp [hC,hY,hb,e];refine gwq hQ ?_)|refine gwC ?_ ?_<;>intro hb
  refine ⟨.inr trivial,?_⟩
  simp [results151,hb,e]
@[simp] theorem jrv (a b:Int) (K:Value->Prop):za2 prog G0 151 #[Value.agg #[.int .u64 (wi (a) 0),.int .u64 (wi (a) 1),.int .u64 (wi (a) 2),.int .u64 (wi (a) 3)],Value.agg #[.int .u64 (wi (b) 0),.int .u64 (wi (b) 1),.int .u64 (wi (b) 2),.int .u64 (wi (b) 3)]] K↔K (.tuple #[wd (a - b),.bool (ng a != ng b&&ng (a - b) != ng a)]):=zaf G0W (by kernel_rfl) (z45 a b)
@[simp] theorem jon (z c:Int) (h0:0<=c) (h1:c<=1) (K:Value->Prop):za2 prog G0 110 #[Value.agg #[.int .u64 (di (z) 0),.int .u64 (di (z) 1),.int .u64 (di (z) 2),.int .u64 (di (z) 3),.int .u64 (di (z) 4),.int .u64 (di (z) 5),.int .u64 (di (z) 6),.int .u64 (di (z) 7)],.agg #[.int .u64 0,.int .u64 0,.int .u64 0,.int .u64 0,.int .u64 0,.int .u64 0,.int .u64 0,.int .u64 0],.int .u64 c] K↔K (dg (z+c)):=by
 have:=jl6 z 0 c h0 h1 K
 simpa using this
theorem z37 (a:Int):Ret prog G0 107 #[wd a] (.tuple #[wd (-a),.bool (ng a&&ng (-a))]):=by
 refine zav G0F func107 rfl call107 (by simp) (by simp) (by simp [ntmps107]) ?_
 intro C hC hC0 hY
 have e:-a - 1+1=-a:=by omega
 cases hb:ng a
 all_goals
  repeat' first|refine gwZ ?_|(refine gwX ?_;intro Q hQ _;simp [hC,hY,hb,e];refine gwq hQ ?_)|refine gwC ?_ ?_<;>intro hb
  refine ⟨.inr trivial,?_⟩
  simp [results107,hb,e]
@[simp] theorem jri (a:Int) (K:Value->Prop):za2 prog G0 107 #[Value.agg #[.int .u64 (wi (a) 0),.int .u64 (wi (a) 1),.int .u64 (wi (a) 2),.int .u64 (wi (a) 3)]] K↔K (.tuple #[wd (-a),.bool (ng a&&ng (-a))]):=zaf G0W (by kernel_rfl) (z37 a)
end Go.Gy
