/-
  Lemmas of this claim, in their order (GyLE, GyLG, GyLH, GyEF, GyWI, GyCG, GyLJ, GyPA, GyEK).
  Conditions: those of each theorem.
-/
import Derived.Test.YtamodcpmplmaoaaGreatDoorGz05
set_option linter.unusedSimpArgs false
set_option linter.unusedVariables false
set_option maxRecDepth 8000
set_option maxHeartbeats 4000000
namespace Go.Gy
open Go Go.RowKit
theorem FL {p:Prop} (h:p:=by
 have:=adO Rx hp1 hm e;subst this;rw [<-hv];exact cY _ _ _):p:=h
theorem G3 {p:Prop} (h:p:=by
 induction N with
 | nil=>cases hp
 | cons a l ih =>
  simp only [bI,fu] at h;rcases aj.1 hp with rfl|hp1<;>rcases aj.1 hq with rfl|om
  ·rfl
  ·exact absurd (aK.2 ⟨q,om,e.symm⟩) h.1
  ·exact absurd (aK.2 ⟨p,hp1,e⟩) h.1
  ·exact ih h.2 hp1 om):p:=h
theorem yg {p:Prop} (h:p:=by
 rw [ao _ _ (λe=>hu (aK.2 ⟨_,hm,e.symm⟩))];exact h.t0 u hu):p:=h
theorem E3 {p:Prop} (h:p:=by
 by_cases e:p.2=t
 ·exact FL
 ·rw [ao _ _ e];rcases UI hl with e1|h1
  ·exact absurd (congrArg Prod.snd (Ke QL hp1 hm e1)) e
  ·exact h.tm p hp1 h1):p:=h
abbrev aa2 := Nat -> Blk
structure TI (N:List (Nat×Nat)) (V:fp) (X:List (Nat×Nat)) (Bk:aa2) (jK:fp) (hp0:Hp) (listed:Array Bool) (ts:fp) (hp:Hp):Prop where
 t0:∀ t,t∉N.map Prod.snd->ts t=jK t
 tm:∀ p∈N,listed[p.1]? = some true->ts p.2=V p.1
 h0:∀ k,k∉X.map Prod.snd->hp k=hp0 k
 bx:∀ q∈X,listed[q.1]? = some true->hp q.2=some (Bk q.1)
theorem UI {listed:Array Bool} {i j:Nat} (h:(listed.setIfInBounds i true)[j]? = some true):j=i\/listed[j]? = some true:=by
 rw [gJ] at h;split at h
 ·rename_i e;exact .inl e.symm
 ·exact .inr h
theorem adO {N:List (Nat×Nat)} (h:(N.map Prod.snd).Nodup) {p q:Nat×Nat} (hp:p∈N) (hq:q∈N) (e:p.2=q.2):p=q:=by
 exact G3
theorem Ke {N:List (Nat×Nat)} (h:(N.map Prod.fst).Nodup) {p q:Nat×Nat} (hp:p∈N) (hq:q∈N) (e:p.1=q.1):p=q:=by
 exact G3
section
variable {N X:List (Nat×Nat)} {V:fp} {Bk:aa2} {jK ts:fp} {hp0 hp:Hp} {listed:Array Bool}
theorem TI.start (hl:∀ j:Nat,listed[j]?≠some true):TI N V X Bk jK hp0 listed jK hp0:=⟨λ_ _=>rfl,λp _ h=>absurd h (hl _),λ_ _=>rfl,λq _ h=>absurd h (hl _)⟩
theorem TI.tmp (QL:(N.map Prod.fst).Nodup) (Rx:(N.map Prod.snd).Nodup) (h:TI N V X Bk jK hp0 listed ts hp) {i t:Nat} {v:Value} (hm:(i,t)∈N) (hv:V i=v) (hx:i∉X.map Prod.fst):TI N V X Bk jK hp0 (listed.setIfInBounds i true) (upd ts t v) hp:=by
 refine ⟨λu hu=>?_,λp hp1 hl=>?_,h.h0,λq hq hl=>?_⟩
 ·exact yg
 ·exact E3
 ·rcases UI hl with e1|h1
  ·exact absurd (aK.2 ⟨q,hq,e1⟩) hx
  ·exact h.bx q hq h1
theorem TI.new (QL:(N.map Prod.fst).Nodup) (Rx:(N.map Prod.snd).Nodup) (Xr:(X.map Prod.fst).Nodup) (hX2:(X.map Prod.snd).Nodup) (h:TI N V X Bk jK hp0 listed ts hp) {i t k:Nat} {v:Value} {b:Blk} (hm:(i,t)∈N) (hv:V i=v) (hx:(i,k)∈X) (hb:Bk i=b):TI N V X Bk jK hp0 (listed.setIfInBounds i true) (upd ts t v) (upd hp k (some b)):=by
 refine ⟨λu hu=>?_,λp hp1 hl=>?_,λu hu=>?_,λq hq hl=>?_⟩
 ·exact yg
 ·exact E3
 ·rw [ao _ _ (λe=>hu (aK.2 ⟨_,hx,e.symm⟩))];exact h.h0 u hu
 ·by_cases e:q.2=k
  ·have:=adO hX2 hq hx e;subst this;rw [<-hb];exact cY _ _ _
  ·rw [ao _ _ e];rcases UI hl with e1|h1
   ·exact absurd (congrArg Prod.snd (Ke Xr hq hx e1)) e
   ·exact h.bx q hq h1
theorem TI.chg {V':fp} {QE:aa2} (h:TI N V X Bk jK hp0 listed ts hp) (hv:∀ p∈N,listed[p.1]? = some true->V p.1=V' p.1) (hb:∀ q∈X,listed[q.1]? = some true->Bk q.1=QE q.1):TI N V' X QE jK hp0 listed ts hp :=
 ⟨h.t0,λp hp1 hl=>(h.tm p hp1 hl).trans (hv p hp1 hl),h.h0,λq hq hl=>(h.bx q hq hl).trans (by rw [hb q hq hl])⟩
end
section
variable {P:Program} {C:Ctx} {n:Nat} {d:List Deferred} {ro:Option Nat} {K:l6}
theorem L7 {ops:Array Oper} {base fuel yc:Nat} {listed:Array Bool} {ts:fp} {hp:Hp} (F:(Nat->Value)->Hp->Prop) (h:F ts hp) (H:∀ jK hp0,F jK hp0->GA P C n d ro ops base fuel listed jK hp0 yc K):GA P C n d ro ops base fuel listed ts hp yc K:=H _ _ h
theorem Iq {G:Hp} {ops:Array Oper} {o:Oper} {base i fuel:Nat} {listed:Array Bool} {ts:fp} {hp eG:Hp} {yc:Nat} {c:Call} {f:Operand} {g:FuncId} {cap:ca} {rs:List Nat} {args:ca} {R:Ij} (Ro:C.G=G) (hr:FunS P G g args eG rs R) (RE:ops[i]? = some o) (hi:listed[i]? = some false) (hg:gp ops o ts=some true) (hd:∀ dd,o.dst=some dd->dd<n)
  (ho:o.op=.call c) (hc:c.callee=.value f) (hf:okT ts f) (Kr:gev ts f=.func (.func g) #[] cap) (Zc:cap.all eh=true) (ha:∀ x∈c.args.toList,okX ts hp x) (n5:c.args.map (gev ts)++cap=args)
  (h1:∀ q∈rs,eG q=hp q) (h2:∀ q,q<100->eG q=hp q) (tS:∀ v ns,R v ns->∀ q∈ak ns,base+8*i<=q/\q<base+8*i+8)
  (h:∀ v ns,R v ns->GA P C n d ro ops base fuel (listed.setIfInBounds i true) (cJ ts o.dst v) (bH hp ns) yc K):GO P C n d ro ops base fuel listed i ts hp yc K:=by
 subst Ro;intro r a W Sm CP hb hG hR;unfold wpOpIn;rw [RE];simp only;rw [mB Sm.rel hg];simp only [aV];exact Fb
end
theorem Ft {p:Prop} (h:p:=by
 exact h.bx q hq h1 λq' wE e dp KI=>uH q' wE e dp ((jG hi).2 (.inr KI))):p:=h
theorem uP {md:Region.Mode} {ops:Array Oper} {listed:Array Bool} (hs:listed.size=ops.size) (dp:(ops.toList.zipIdx.all λp=>p.1.after.all λe=>!Region.binds md e||decide (e.on<p.2))=true) (h:Region.ready md ops listed=[]):∀ i,i<ops.size->listed[i]? = some true:=by
 intro i
 induction i using Nat.strongRecOn with
 | _ i ih =>
  intro hi;have e1:listed[i]? = some listed[i]:=jw zO
  cases hb:listed[i] with
  | true=>rw [e1,hb]
  | false =>
   exfalso
   have:i∈Region.ready md ops listed:=(mem_ready hs).2 ⟨by rw [e1,hb],λo ho e he hbe=>by
    have hm:(o,i)∈ops.toList.zipIdx:=by
     rw [CC];simpa using ho
    have:=cX.1 dp _ hm;have:=dt.1 this e he;rw [hbe] at this;have h3:e.on<i:=by simpa using this
    exact ih _ h3 zO⟩
   rw [h] at this;cases this
structure TJ (N X D:List (Nat×Nat)) (V:fp) (Bk:aa2) (jK:fp) (hp0:Hp) (listed:Array Bool) (ts:fp) (hp:Hp):Prop where
 t0:∀ t,t∉N.map Prod.snd->ts t=jK t
 tm:∀ p∈N,listed[p.1]? = some true->ts p.2=V p.1
 h0:∀ k,(∀ q∈X,q.2=k->listed[q.1]?≠some true)->hp k=hp0 k
 bx:∀ q∈X,listed[q.1]? = some true->(∀ q'∈X,q'.2=q.2->q.1<q'.1->listed[q'.1]?≠some true)->hp q.2=some (Bk q.1)
 cl:∀ p∈D,listed[p.1]? = some true->listed[p.2]? = some true
theorem jG {listed:Array Bool} {i j:Nat} (hi:listed[i]? = some false):(listed.setIfInBounds i true)[j]? = some true↔j=i\/listed[j]? = some true:=by
 rw [gJ];have:=(aO.1 hi).1;split
 ·rename_i e;subst e;simp [this]
 ·rename_i e;exact ⟨.inr,λh=>h.resolve_left λx=>e x.symm⟩
section
variable {N X D:List (Nat×Nat)} {V:fp} {Bk:aa2} {jK ts:fp} {hp0 hp:Hp} {listed:Array Bool}
theorem TJ.start (hl:∀ j:Nat,listed[j]?≠some true):TJ N X D V Bk jK hp0 listed jK hp0:=⟨λ_ _=>rfl,λp _ h=>absurd h (hl _),λ_ _=>rfl,λq _ h=>absurd h (hl _),λp _ h=>absurd h (hl _)⟩
theorem TJ.ext (h:TJ N X D V Bk jK hp0 listed ts hp) {k:Nat} (hk:k∉X.map Prod.snd):hp k=hp0 k:=h.h0 k λq hq e=>absurd (aK.2 ⟨q,hq,e⟩) hk
theorem TJ.put (QL:(N.map Prod.fst).Nodup) (Rx:(N.map Prod.snd).Nodup) (h:TJ N X D V Bk jK hp0 listed ts hp) {i t:Nat} {v:Value} (hi:listed[i]? = some false) (hm:(i,t)∈N) (hv:V i=v):(∀ u,u∉N.map Prod.snd->upd ts t v u=jK u)/\∀ p∈N,(listed.setIfInBounds i true)[p.1]? = some true->upd ts t v p.2=V p.1:=by
 refine ⟨λu hu=>?_,λp hp1 hl=>?_⟩
 ·exact yg
 ·by_cases e:p.2=t
  ·exact FL
  ·rw [ao _ _ e];rcases (jG hi).1 hl with e1|h1
   ·exact absurd (congrArg Prod.snd (Ke QL hp1 hm e1)) e
   ·exact h.tm p hp1 h1
theorem TJ.cls (h:TJ N X D V Bk jK hp0 listed ts hp) {i:Nat} (hi:listed[i]? = some false) (hd:∀ p∈D,p.1=i->listed[p.2]? = some true):∀ p∈D,(listed.setIfInBounds i true)[p.1]? = some true->(listed.setIfInBounds i true)[p.2]? = some true:=λp hp1 hl =>
 (jG hi).2 (.inr (((jG hi).1 hl).elim (hd p hp1) (h.cl p hp1)))
theorem TJ.tmp (QL:(N.map Prod.fst).Nodup) (Rx:(N.map Prod.snd).Nodup) (h:TJ N X D V Bk jK hp0 listed ts hp) {i t:Nat} {v:Value} (hi:listed[i]? = some false) (hd:∀ p∈D,p.1=i->listed[p.2]? = some true) (hm:(i,t)∈N) (hv:V i=v) (hx:i∉X.map Prod.fst):TJ N X D V Bk jK hp0 (listed.setIfInBounds i true) (upd ts t v) hp:=by
 obtain ⟨a,b⟩:=h.put QL Rx hi hm hv;refine ⟨a,b,λk hk=>h.h0 k λq hq e hl=>hk q hq e ((jG hi).2 (.inr hl)),λq hq hl uH=>?_,h.cls hi hd⟩;rcases (jG hi).1 hl with e1|h1
 ·exact absurd (aK.2 ⟨q,hq,e1⟩) hx
 ·exact Ft
theorem TJ.blk (Xr:(X.map Prod.fst).Nodup) (h:TJ N X D V Bk jK hp0 listed ts hp) {i k:Nat} {b:Blk} (hi:listed[i]? = some false) (hx:(i,k)∈X) (hb:Bk i=b) (ho:∀ q∈X,q.2=k->i<q.1->(q.1,i)∈D) :
  (∀ u,(∀ q∈X,q.2=u->(listed.setIfInBounds i true)[q.1]?≠some true)->upd hp k (some b) u=hp0 u)/\∀ q∈X,(listed.setIfInBounds i true)[q.1]? = some true->(∀ q'∈X,q'.2=q.2->q.1<q'.1->(listed.setIfInBounds i true)[q'.1]?≠some true)->upd hp k (some b) q.2=some (Bk q.1):=by
 refine ⟨λu hu=>?_,λq hq hl uH=>?_⟩
 ·rw [ao _ _ (λe=>hu _ hx e.symm ((jG hi).2 (.inl rfl)))];exact h.h0 u λq hq e hl=>hu q hq e ((jG hi).2 (.inr hl))
 ·by_cases e:q.2=k
  ·have e2:q.1=i:=by
    rcases (jG hi).1 hl with e1|h1
    ·exact e1
    ·rcases Nat.lt_trichotomy q.1 i with c|c|c
     ·exact absurd ((jG hi).2 (.inl rfl)) (uH _ hx e.symm c)
     ·exact c
     ·have:=h.cl _ (ho q hq e c) h1;rw [hi] at this;cases this
   have:=Ke Xr hq hx e2;subst this;rw [<-hb];exact cY _ _ _
  ·rw [ao _ _ e];rcases (jG hi).1 hl with e1|h1
   ·exact absurd (congrArg Prod.snd (Ke Xr hq hx e1)) e
   ·exact Ft
theorem TJ.bxi (h:TJ N X D V Bk jK hp0 listed ts hp) {i w k:Nat} (hi:listed[i]? = some false) (hw:(w,k)∈X) (hl:listed[w]? = some true) (hn:∀ q∈X,q.2=k->w<q.1->q.1=i\/(q.1,i)∈D):hp k=some (Bk w) :=
 h.bx _ hw hl λq hq e dp KI=>by
  rcases hn q hq e dp with h1|h1
  ·rw [h1,hi] at KI;cases KI
  ·have:=h.cl _ h1 KI;rw [hi] at this;cases this
theorem TJ.new (QL:(N.map Prod.fst).Nodup) (Rx:(N.map Prod.snd).Nodup) (Xr:(X.map Prod.fst).Nodup) (h:TJ N X D V Bk jK hp0 listed ts hp) {i t k:Nat} {v:Value} {b:Blk} (hi:listed[i]? = some false) (hd:∀ p∈D,p.1=i->listed[p.2]? = some true) (hm:(i,t)∈N) (hv:V i=v) (hx:(i,k)∈X) (hb:Bk i=b) (ho:∀ q∈X,q.2=k->i<q.1->(q.1,i)∈D):TJ N X D V Bk jK hp0 (listed.setIfInBounds i true) (upd ts t v) (upd hp k (some b)):=by
 obtain ⟨a1,a2⟩:=h.put QL Rx hi hm hv;obtain ⟨b1,b2⟩:=h.blk Xr hi hx hb ho;exact ⟨a1,a2,b1,b2,h.cls hi hd⟩
theorem TJ.st (Xr:(X.map Prod.fst).Nodup) (h:TJ N X D V Bk jK hp0 listed ts hp) {i k:Nat} {b:Blk} (hi:listed[i]? = some false) (hd:∀ p∈D,p.1=i->listed[p.2]? = some true) (hn:i∉N.map Prod.fst) (hx:(i,k)∈X) (hb:Bk i=b) (ho:∀ q∈X,q.2=k->i<q.1->(q.1,i)∈D):TJ N X D V Bk jK hp0 (listed.setIfInBounds i true) ts (upd hp k (some b)):=by
 obtain ⟨b1,b2⟩:=h.blk Xr hi hx hb ho;refine ⟨h.t0,λp hp1 hl=>?_,b1,b2,h.cls hi hd⟩;rcases (jG hi).1 hl with e1|h1
 ·exact absurd (aK.2 ⟨p,hp1,e1⟩) hn
 ·exact h.tm p hp1 h1
theorem TJ.chg {V':fp} {QE:aa2} {i:Nat} (h:TJ N X D V Bk jK hp0 listed ts hp) (hi:listed[i]? = some false) (hv:∀ j,j≠i->(j,i)∉D->V j=V' j) (hb:∀ j,j≠i->(j,i)∉D->Bk j=QE j):TJ N X D V' QE jK hp0 listed ts hp:=by
 have ne:∀ j,listed[j]? = some true->j≠i:=λj hj e=>by rw [e,hi] at hj;cases hj
 have nd:∀ j,listed[j]? = some true->(j,i)∉D:=λj hj hd=>by have:=h.cl _ hd hj;rw [hi] at this;cases this
 exact ⟨h.t0,λp hp1 hl=>(h.tm p hp1 hl).trans (hv _ (ne _ hl) (nd _ hl)),h.h0,λq hq hl uH=>(h.bx q hq hl uH).trans (by rw [hb _ (ne _ hl) (nd _ hl)]),h.cl⟩
end
theorem x8 {p:Prop} (h:p:=by
 have:=h.k2;simp only [jv,iff_false];omega):p:=h
theorem Ea {p:Prop} (h:p:=by
 refine iE h (λk hk=>?_) hL.low trivial hK;obtain ⟨p,hp1,rfl⟩:=aC.1 hk;rw [LOk.at hL.one p hp1,hm p hp1]):p:=h
structure LTwo (G:Hp) (L:cf) (ks:Nat) (b b2:Blk):Prop where
 ok:LOk L 200
 fx:∀ p∈L,p.2.fx
 ka:(100,b)∈L
 kb:(ks,b2)∈L
 k8:ks=100\/ks=108
section
variable {G:Hp} {L:cf} {ks:Nat} {b b2:Blk}
theorem LTwo.mem (h:LTwo G L ks b b2) (p:Nat×Blk) (hp:p∈L):hpL G L p.1=some p.2:=LOk.at h.ok.one p hp
theorem LTwo.a (h:LTwo G L ks b b2):hpL G L 100=some b:=h.mem _ h.ka
theorem LTwo.s (h:LTwo G L ks b b2):hpL G L ks=some b2:=h.mem _ h.kb
theorem LTwo.k1 (h:LTwo G L ks b b2):100<=ks:=(h.ok.big _ h.kb).1
theorem LTwo.k2 (h:LTwo G L ks b b2):ks<200:=(h.ok.big _ h.kb).2
theorem LTwo.ne (h:LTwo G L ks b b2) (k:Nat) (hk:200<=k):(ks=k)=False:=by
 exact x8
theorem LTwo.low (h:LTwo G L ks b b2) (k:Nat) (hk:k<100):hpL G L k=G k:=h.ok.low k hk
theorem LTwo.ia (h:LTwo G L ks b b2):100∈ak L:=aC.2 ⟨_,h.ka,rfl⟩
theorem LTwo.ib (h:LTwo G L ks b b2):ks∈ak L:=aC.2 ⟨_,h.kb,rfl⟩
theorem LTwo.two {b b2:Blk} (h:b.fx) (h2:b2.fx):LTwo G [(100,b),(108,b2)] 108 b b2:=by
 refine ⟨⟨zS,ai,?_⟩,?_,zS,zS,.inr rfl⟩
 ·simp only [aj,az,ay,dc,bN];exact ⟨Blk.fx_ids h _,Blk.fx_ids h2 _⟩
 ·simp only [aj,az,ay,dc,bN];exact ⟨h,h2⟩
theorem LTwo.one {b:Blk} (h:b.fx):LTwo G [(100,b)] 100 b b:=by
 refine ⟨⟨zS,ai,?_⟩,?_,zS,zS,.inl rfl⟩
 ·simp only [aj,az,ay,bN];exact Blk.fx_ids h _
 ·simp only [aj,az,ay,bN];exact h
end
theorem uY {C:Ctx} {G:Hp} {s:GS} {m L:cf} (l:List (Nat×Value)) (B:Nat) (hG:C.G=G) (eg:c7 G) (hL:LOk L 200) (vq:∀ p∈L,p.2.fx) (h0:C.hp0=hpL G L) (hB:200<=B) (hl:∀ p∈l,s.ts p.1=p.2/\aL (dom (hpL G (m++L))) p.2)
  (hm:∀ p∈m,s.hp p.1=some p.2/\p.2.ids (dom (hpL G (m++L)))/\200<=p.1/\p.1<B) (hk:∀ p∈L,s.hp p.1=some p.2):Weak C s ⟨tsL l,hpL G (m++L),B,s.yc⟩:=by
 refine cB l B hG eg h0 zO hl (λp hp=>?_) (λp hp=>?_)
 ·rcases bh.1 hp with h|h
  ·have:=hm p h;exact ⟨this.1,this.2.1,zO,this.2.2.2⟩
  ·have:=hL.big p h;exact ⟨hk p h,Blk.fx_ids (vq p h) _,this.1,zO⟩
 ·have hb:=hL.big p hp;refine ⟨hb.1,?_⟩;rw [hk p hp]
  have key:∀ (m:cf),(∀ q∈m,200<=q.1)->hpL G (m++L) p.1=some p.2:=by
   intro m
   induction m with
   | nil=>intro _;exact LOk.at hL.one p hp
   | cons q m ih =>
    intro hq;obtain ⟨k,c⟩:=q;rw [bj,bV];have:=hq (k,c) zS;simp only at this;rw [ae zO];exact ih λq h=>hq q (aD _ h)
  exact key m λq hq=>(hm q hq).2.2.1
theorem cV {P:Program} {G:Hp} {L:cf} {f:FuncId} {args:ca} {v:Value} {hp:Hp} {nk:Nat} {K:Eff->Prop} (h:Fun P G f args (hpL G L) (ak L) (.ret v [])) (hL:LOk L 200) (hm:∀ p∈L,hp p.1=some p.2) (hK:K ((Res.ret v []).eff (ak L))):qO P G f args hp nk K:=by
 exact Ea
theorem jx {G:Hp} {m L:cf} {k:Nat} (h:k∈ak L):dom (hpL G (m++L)) k:=by
 induction m with
 | nil =>
  obtain ⟨p,hp,rfl⟩:=aC.1 h;rw [bq];unfold dom
  induction L with
  | nil=>cases hp
  | cons q L ih =>
   obtain ⟨k,c⟩:=q;rw [bV];by_cases e:p.1=k
   ·rw [ag e];simp
   ·rw [ae e];refine ih ?_ ?_
    ·rcases aj.1 hp with e1|h1
     ·exact absurd (congrArg Prod.fst e1) e
     ·exact h1
    ·rcases aj.1 hp with e1|h1
     ·exact absurd (congrArg Prod.fst e1) e
     ·exact aC.2 ⟨p,h1,rfl⟩
 | cons q m ih =>
  obtain ⟨j,c⟩:=q;unfold dom;rw [bj,bV];split
  ·simp
  ·exact ih
end Go.Gy
namespace Go.Gy
open Go Go.RowKit Go.Proofs Go.Proofs.Tryz
theorem sa {p:Prop} (h:p:=by simpa using Kt):p:=h
theorem nM {p:Prop} (h:p:=by simp [Qw,hA]):p:=h
theorem nF {p:Prop} (h:p:=by simp [Su,hS,cW,pV]):p:=h
theorem Si {p:Prop} (h:p:=by
 simp [aL,cQ,aI,aP,hT.ia,hT.ib,cfV]):p:=h
def oB (n n2:Nat) (Gt rt:Bool):Bool:=decide (n=n2)&&(Gt&&rt)
theorem AZ (L:cf) (ks:Nat) (bm bs:Blk) (hT:LTwo G0 L ks bm bs) (off n cap au n2 av:Nat) (fm fs:aJ) (hm:MB bm off n fm) (fO:SB bs au n2 fs) (g bx tp nr md st:Int) (hs:i64 st) :
  Fun prog G0 94 #[cfV (.slice (some ⟨100,off,none⟩) n cap) g bx tp nr md,.agg #[.int .i64 st,.slice (some ⟨ks,au,none⟩) n2 av]] (hpL G0 L) (ak L) (.ret (.bool (oB n n2 (fk n fm g bx tp nr md) (aY st fs n2))) []):=by
 refine cg (B:=200) G0F func94 rfl call94 hT.ok ?_ zS zS zS (by simp [ntmps94]) zO ?_
 ·exact Si
 intro C hC bA hY;have hA:=hT.a;have hS:=hT.s;have cW:=hT.ne;have jj:=hT.low;have pV:=hT.k1;have n6:=hT.k2;have Qw:=λρ=>Blk.fx_rn hm.fx ρ;have Su:=λρ=>Blk.fx_rn fO.fx ρ;have qY:=BO bm off n cap fm hm g bx tp nr md;have HT:=ahy bs au n2 av fs fO st hs;unfold oB;unfold cfV at qY |-;by_cases hn:n=n2
 ·have Kt:(n:Int)=(n2:Int):=zO;have Sr:((n:Int)==(n2:Int))=true:=sa;rw [bg hn]
  cases hc:fk n fm g bx tp nr md with
  | false =>
   rw [hc] at qY
   repeat' first|refine cT ?_|((first|refine gwR [83,118] ?_|refine gwD [83,118] ?_);intro Q hQ _;(repeat first|simp [hC,hY,hA,hS,cW,Kt,Sr]|refine aE qY G0F (B:=200) (aT hm.fx) (λk=>k) (λk hk=>rfl) dI zS nM ai ax ?_);refine dq hQ ?_)|fail
   exact eT results94
  | true =>
   rw [hc] at qY
   repeat' first|refine cT ?_|((first|refine gwR [83,118] ?_|refine gwD [83,118] ?_);intro Q hQ _;(repeat first|simp [hC,hY,hA,hS,cW,Kt,Sr]|refine aE qY G0F (B:=200) (aT hm.fx) (λk=>k) (λk hk=>rfl) dI zS nM ai ax ?_|refine aE HT G0F (B:=200) (aT fO.fx) (λk=>if k=100 then ks else k) (λk hk=>ae zO) aN zS nF ai ax ?_);refine dq hQ ?_)|fail
   exact eT results94
 ·have Kt:¬(n:Int)=(n2:Int):=zO;have Sr:((n:Int)==(n2:Int))=false:=sa;rw [aR hn];refine cA (k5 hA hS cW Kt Sr) ?_;exact eT results94
theorem iu {p:Prop} (h:p:=by simp [jH]):p:=h
theorem cZ {p:Prop} (h:p:=by simp [Value.cells]):p:=h
theorem s9 {p:Prop} (h:p:=by
 simp [dom,fP,ren,aW,aw,aF,aL,cQ,aI,aP,hs]):p:=h
theorem yo {p:Prop} (h:p:=by
 have BB:=λD=>Blk.fx_ids (fy (3*c') g' 70) D;have hfm:=λρ=>nY (fy (3*c') g' 70) ρ;have QS:=λρ=>Blk.fx_rn h.fx ρ;simp [jH,Wn,QS,aM,aI,aP,dom,BB,kL];simp [cE,aM,aI,aP,dom]):p:=h
theorem ED {p:Prop} (h:p:=by
 rcases jR with jR|⟨c,jR⟩
 ·exact .inl jR
 ·simp at jR;exact .inr jR.1.symm):p:=h
theorem xT {p:Prop} (h:p:=by
 refine ⟨.inr trivial,zR G0F,_,_,λk=>k,⟨_,.inl ⟨zS,rfl,rfl⟩,rfl⟩,λ_ _=>rfl,zS,zS,by simp [results175,ren,aW,aw,aF],zS⟩):p:=h
theorem FW {p:Prop} (h:p:=by
 refine cB _ 300 hC G0F (m0:=[(100,b)]) bA zO ?_ ?_ ?_
 ·exact lO
 ·simp [aM,aI,aP,cE,kL,dom]
 ·simp):p:=h
theorem Hu {p:Prop} (h:p:=by
 rintro k' c' g' jR zN qX Oy
 obtain rfl:k'=484:=by
  rcases jR with jR|⟨c,jR⟩
  ·exact jR
  ·simp at jR
 refine qM trivial ?_;refine cu ?_;refine cA hs ?_;refine ⟨λk=>if k=208 then 484 else k,r8 b st off n cap p q (0+1) (.slice (some ⟨208,0,none⟩) (0+1) c') [(208,⟨fa (3*c') .i64 g',.ty 70⟩)],n - (0+1),?_,⟨0+1,_,_,zO,.inr ⟨c',g',zO,qX,Oy,rfl,rfl⟩,rfl⟩,zO⟩;refine mC (s:=GS.mk _ _ _ 0) _ _ 300 hC G0F (m0:=[(100,b)]) bA zO ?_ ?_ ?_ ?_ ?_
 ·exact s9
 ·exact yo
 ·simp
 ·exact QX
 ·simp [dom]):p:=h
theorem yv {p:Prop} (h:p:=by
 unfold qd;rw [(zO:(3*i+u) / 3=i),(zO:(3*i+u)%3=u)]):p:=h
theorem G4 {p:Prop} (h:p:=by
 rintro k' c' g' jR zN qX Oy
 have jR:k'=484\/k'=208:=by
  exact ED
 rcases jR with rfl|rfl
 ·
  refine qM trivial ?_;refine cu ?_;refine cA hs ?_;refine ⟨λk=>if k=208 then 484 else k,r8 b st off n cap p q (i+1) (.slice (some ⟨208,0,none⟩) (i+1) c') [(208,⟨fa (3*c') .i64 g',.ty 70⟩)],n - (i+1),?_,⟨i+1,_,_,zO,.inr ⟨c',g',zO,qX,Oy,rfl,rfl⟩,rfl⟩,zO⟩;refine mC (s:=GS.mk _ _ _ 0) _ _ 300 hC G0F (m0:=[(100,b)]) bA zO ?_ ?_ ?_ ?_ ?_
  ·exact s9
  ·exact yo
  ·simp
  ·exact QX
  ·exact nv
 ·
  refine qM trivial ?_;refine cu ?_;refine cA hs ?_;refine ⟨λk=>if k=208 then 208 else k,r8 b st off n cap p q (i+1) (.slice (some ⟨208,0,none⟩) (i+1) c') [(208,⟨fa (3*c') .i64 g',.ty 70⟩)],n - (i+1),?_,⟨i+1,_,_,zO,.inr ⟨c',g',zO,qX,Oy,rfl,rfl⟩,rfl⟩,zO⟩;refine mC (s:=GS.mk _ _ _ 0) _ _ 300 hC G0F (m0:=[(100,b)]) bA zO ?_ ?_ ?_ ?_ ?_
  ·exact s9
  ·exact yo
  ·simp
  ·exact QX
  ·simp [dom]):p:=h
theorem SB.vec {b:Blk} {off n:Nat} {f:aJ} (h:SB b off n f) {i:Nat} (hi:i<n) {u:Nat} (hu:u+3<=6):fB prog 70 b (off+i*6+u)=some (.agg #[.int .i64 (f (6*i+u)),.int .i64 (f (6*i+u+1)),.int .i64 (f (6*i+u+2))]):=by
 have Xs:=Blk.fx_rd h.fx;have:=tZ (P:=prog) (T:=70) (m:=3) (j:=6*i+u) (cr isAgg70) (aG sizeOf70) zO h.rd zO;rw [(zO:off+i*6+u=off+(6*i+u)),this,HO]
 rfl
def r8 (b:Blk) (st:Int) (off n cap:Nat) (p q:Int) (i:Nat) (sl:Value) (ns:cf):GS :=
 ⟨tsL [(1,.int .i64 p),(2,.int .i64 q),(3,.pointer (some ⟨200,0,none⟩)),(8,sl),(9,.int .i64 i)],hpL G0 ((200,cE st 100 off n cap)::(100,b)::ns),300,0⟩
def atx (b:Blk) (st:Int) (off n cap:Nat) (p q:Int) (G:aJ) (m:Nat) (s:GS):Prop:=∃ i sl ns,i+m=n/\aeY 208 i G sl ns/\s=r8 b st off n cap p q i sl ns
theorem UO (b:Blk) (off n cap:Nat) (f:aJ) (h:SB b off n f) (st p q:Int) (hp:i64 p) (hq:i64 q) :
  FunS prog G0 175 #[.agg #[.int .i64 st,.slice (some ⟨100,off,none⟩) n cap],.int .i64 p,.int .i64 q] (hpL G0 [(100,b)]) (ak [(100,b)]) (Iz 1000 n (qd f p q) (aY st f n&&iC p q)):=by
 refine eW (B:=200) G0F func175 rfl call175 (aT h.fx) ?_ (L4 zO) (by simp [ntmps175]) zO ?_
 ·exact RU
 intro C hC bA hY;have hr:=λρ=>Blk.fx_rn h.fx ρ;have kL:=λD=>Blk.fx_ids h.fx D;have Lk:=h.nn
 cases c0:aY st f n with
 | false =>
  repeat' first|refine cT ?_|((first|refine gwR [54] ?_|refine gwD [54] ?_);intro Q hQ _;(repeat first|simp [hC,hY,hp,c0]|refine aE (lV b off n cap f h st) G0F (B:=200) (aT h.fx) (λk=>k) (λk hk=>rfl) aN zS dx ai ax ?_);refine dq hQ ?_)|fail
  exact xT
 | true =>
  cases c1:iC p q with
  | false =>
   repeat' first|refine cT ?_|((first|refine gwR [54] ?_|refine gwD [54] ?_);intro Q hQ _;(repeat first|simp [hC,hY,hp,c0,c1]|refine aE (lV b off n cap f h st) G0F (B:=200) (aT h.fx) (λk=>k) (λk hk=>rfl) aN zS dx ai ax ?_);refine dq hQ ?_)|fail
   exact xT
  | true =>
   repeat' first|refine cT ?_|((first|refine gwR [54] ?_|refine gwD [54] ?_);intro Q hQ _;(repeat first|simp [hC,hY,hp,c0,c1]|refine aE (lV b off n cap f h st) G0F (B:=200) (aT h.fx) (λk=>k) (λk hk=>rfl) aN zS dx ai ax ?_);refine dq hQ ?_)|fail
   refine jL (atx b st off n cap p q (qd f p q)) (m0:=n) (s0:=r8 b st off n cap p q 0 (.slice none 0 0) []) ?_ ⟨0,_,_,zO,.inl ⟨rfl,rfl,rfl⟩,rfl⟩ ?_
   ·exact FW
   rintro m _ ⟨i,sl,ns,zM,hV,rfl⟩;by_cases hm:m=0
   ·obtain rfl:i=n:=zO;rcases hV with ⟨rfl,rfl,rfl⟩|⟨c,g,ma,H5,hg,rfl,rfl⟩
    ·unfold r8 cE;refine iI ?_;exact xT
    ·unfold r8 cE;refine iI ?_;refine ⟨.inr trivial,zR G0F,_,_,λk=>if k=1000 then 208 else k,⟨_,.inr ⟨c,g,by simpa using ma,by simpa using H5,by simpa using hg,px,rfl⟩,rfl⟩,λk hk=>ae zO,zS,zS,by simp [results175,ren,aW,aw,aF],iu⟩
   ·have ew:i<n:=zO;have cS:(i:Int)<n:=zO;have hz:(0:Int)<=i:=zO;have hs:Int.bmod ((i:Int)+1) 18446744073709551616=((i+1:Nat):Int):=ee;have hl:=h.vec ew (u:=3) zO;have i3:=h.i ew 3 zO;have i4:=h.i ew 4 zO;have i5:=h.i ew 5 zO;rcases hV with ⟨rfl,rfl,rfl⟩|⟨c,g,ma,H5,hg,rfl,rfl⟩
    ·unfold r8 cE;refine cA (CT ew cS hz hs hl i3 i4 i5 hp hq) ?_;refine gj ?_;refine On trivial ?_;refine uu (m:=3) (i:=0) (j:=476) (o9:=24) (z:=.agg #[.int .i64 0,.int .i64 0,.int .i64 0]) (T2:=.ty 70) (G:=qd f p q) (ev:=λu=>dwV f p q 0 u) rfl zS rfl underlying167 (aG sizeOf70) ah ah zO cZ cZ zO zO (.inl ⟨rfl,zS⟩) zS (by simp [HO,dwV,dwE]) (λu hu=>?_) zO ?_
     ·unfold qd;rw [(zO:(3*0+u) / 3=0),(zO:(3*0+u)%3=u)]
     ·exact Hu
    ·unfold r8 cE;refine cA (CT ew cS hz hs hl i3 i4 i5 hp hq) ?_;refine gj ?_;refine On trivial ?_;refine uu (m:=3) (i:=i) (j:=476) (o9:=24) (z:=.agg #[.int .i64 0,.int .i64 0,.int .i64 0]) (T2:=.ty 70) (G:=qd f p q) (ev:=λu=>dwV f p q i u) rfl zS rfl underlying167 (aG sizeOf70) ah ah zO cZ cZ zO zO (.inr ⟨208,c,g,zO,zS,zS,H5,hg⟩) zS (by simp [HO,dwV,dwE]) (λu hu=>?_) zO ?_
     ·exact yv
     ·exact G4
theorem Fk {p:Prop} (h:p:=by
 rw [hw];unfold Qg cfB;refine cA (k6 h4 hg hx ht hn hd) ?_;exact eS results84):p:=h
theorem FC {p:Prop} (h:p:=by
 rw [hc] at cW
 repeat' first|refine cT ?_|((first|refine gwR [84] ?_|refine gwD [84] ?_);intro Q hQ _;(repeat first|simp [hC,hY,cW]|refine aE (YT b off n cap f h g bx tp nr md) G0F (B:=200) (aT h.fx) (λk=>k) (λk hk=>rfl) dI zS dx ai ax ?_);refine dq hQ ?_)|fail
 exact eS results53):p:=h
theorem ah1 (n lo hi:Int):Ret prog G0 111 #[.int .i64 n,.int .i64 lo,.int .i64 hi] (.bool (wiB n lo hi)):=by
 refine aU G0F func111 rfl call111 rfl zS (by simp [ntmps111]) ?_;intro C hC bA hY;unfold wiB;by_cases c0:lo<=n
 ·by_cases c1:n<=hi
  ·rw [bg ⟨c0,c1⟩]
   (repeat' (first|refine cT ?_|(refine iy ?_;intro Q hQ _;simp [hC,hY,c0,c1];refine dq hQ ?_)|refine gwC ?_ ?_<;>intro hb))
   exact eR results111
  ·rw [aR zO]
   (repeat' (first|refine cT ?_|(refine iy ?_;intro Q hQ _;simp [hC,hY,c0,c1];refine dq hQ ?_)|refine gwC ?_ ?_<;>intro hb))
   exact eR results111
 ·rw [aR zO]
  (repeat' (first|refine cT ?_|(refine iy ?_;intro Q hQ _;simp [hC,hY,c0];refine dq hQ ?_)|refine gwC ?_ ?_<;>intro hb))
  exact eR results111
@[simp] theorem w11 (n lo hi:Int) (K:fQ):bl prog G0 111 #[.int .i64 n,.int .i64 lo,.int .i64 hi] K↔K (.bool (wiB n lo hi)):=ar G0W ah (ah1 n lo hi)
def Qg (b:Blk) (off n cap:Nat) (g bx tp nr md:Int) (i:Nat):GS :=
 ⟨tsL [(1,.pointer (some ⟨200,0,none⟩)),(3,.int .i64 i)],hpL G0 [(100,b),(200,cfB (.slice (some ⟨100,off,none⟩) n cap) g bx tp nr md)],400,0⟩
theorem NR {f:aJ} {n:Nat}:zp f n=true↔∀ i,i<n->wiB (f i) 1 1024=true:=by simp [zp]
theorem YT (b:Blk) (off n cap:Nat) (f:aJ) (h:MB b off n f) (g bx tp nr md:Int) :
  Fun prog G0 84 #[cfV (.slice (some ⟨100,off,none⟩) n cap) g bx tp nr md] (hpL G0 [(100,b)]) (ak [(100,b)]) (.ret (.string (ly n f g bx tp nr md)) []):=by
 refine cg (B:=200) G0F func84 rfl call84 (aT h.fx) ?_ ga zS zS (by simp [ntmps84]) zO ?_
 ·exact Q3
 intro C hC bA hY;have kL:=λD=>Blk.fx_ids h.fx D;unfold cfV
 cases h4:wiB n 1 4 with
 | false =>
  have hw:ly n f g bx tp nr md=⟨#[98,111,100,105,101,115]⟩:=by simp [ly,h4]
  rw [hw];refine cA h4 ?_;exact eS results84
 | true =>
  obtain ⟨N,hN,dp,dk⟩:=Js (λi=>wiB (f i) 1 1024) n;refine cA h4 ?_;refine fD N (Qg b off n cap g bx tp nr md) ?_ ?_ ?_
  ·refine cB _ 400 hC G0F (m0:=[(100,b)]) bA zO ?_ ?_ ?_
   ·exact lO
   ·simp [cfB,aM,aI,aP,kL,dom]
   ·simp
  ·intro i hi;have cS:(i:Int)<n:=zO;have hz:(0:Int)<=i:=zO;have Lk:=h.nn;have hs:Int.bmod ((i:Int)+1) 18446744073709551616=((i+1:Nat):Int):=ee;have hld:=h.at (i:=i) zO;have hw:=dp i hi;unfold Qg cfB;refine cA (k5 cS hz hs hld hw) ?_;refine cB _ 400 hC G0F (m0:=[(100,b)]) bA zO ?_ ?_ ?_
   ·exact QW
   ·simp [cfB,aM,aI,aP,kL,dom]
   ·simp
  ·by_cases tF:N=n
   ·have hNs:=tF.symm;subst hNs;have hm:zp f n=true:=NR.2 dp
    cases hg:wiB g 1 1048576 with
    | false =>
     have hw:ly n f g bx tp nr md=⟨#[99,111,110,115,116,97,110,116]⟩:=by simp [ly,h4,hm,hg]
     rw [hw];unfold Qg cfB;refine cA (k2 h4 hg) ?_;exact eS results84
    | true =>
     cases hx:wiB bx 1 1048576 with
     | false =>
      have hw:ly n f g bx tp nr md=⟨#[98,111,120]⟩:=by simp [ly,h4,hm,hg,hx]
      rw [hw];unfold Qg cfB;refine cA (k3 h4 hg hx) ?_;exact eS results84
     | true =>
      cases ht:wiB tp 1 65536 with
      | false =>
       have hw:ly n f g bx tp nr md=⟨#[116,111,112]⟩:=by simp [ly,h4,hm,hg,hx,ht]
       rw [hw];unfold Qg cfB;refine cA (k4 h4 hg hx ht) ?_;exact eS results84
      | true =>
       cases hn:wiB nr 1 (Int.bmod (2*bx) 18446744073709551616) with
       | false =>
        have hw:ly n f g bx tp nr md=⟨#[110,101,97,114]⟩:=by simp [ly,h4,hm,hg,hx,ht,hn]
        rw [hw];unfold Qg cfB;refine cA (k5 h4 hg hx ht hn) ?_;exact eS results84
       | true =>
        cases hd:wiB md 0 4 with
        | false =>
         have hw:ly n f g bx tp nr md=⟨#[109,101,116,104,111,100]⟩:=by simp [ly,h4,hm,hg,hx,ht,hn,hd]
         exact Fk
        | true =>
         have hw:ly n f g bx tp nr md=⟨#[]⟩:=by simp [ly,h4,hm,hg,hx,ht,hn,hd]
         exact Fk
   ·have aa4:N<n:=zO;have dk:=dk.resolve_left tF
    have hm:zp f n=false:=by
     cases hm:zp f n with
     | false=>rfl
     | true=>have:=NR.1 hm N aa4;rw [dk] at this;cases this
    have hw:ly n f g bx tp nr md=⟨#[109,97,115,115]⟩:=by simp [ly,h4,hm]
    rw [hw];have cS:(N:Int)<n:=zO;have hz:(0:Int)<=N:=zO;have hld:=h.at (i:=N) zO;unfold Qg cfB;refine cA (k4 cS hz hld dk) ?_;exact eS results84
theorem tL (b:Blk) (off n cap:Nat) (f:aJ) (h:MB b off n f) (g bx tp nr md:Int) :
  Fun prog G0 53 #[cfV (.slice (some ⟨100,off,none⟩) n cap) g bx tp nr md] (hpL G0 [(100,b)]) (ak [(100,b)]) (.ret (.int .i64 (if fk n f g bx tp nr md=true then 0 else 110)) []):=by
 refine cg (B:=200) G0F func53 rfl call53 (aT h.fx) ?_ zS zS zS (by simp [ntmps53]) zO ?_
 ·exact Q3
 intro C hC bA hY;have hr:=λρ=>Blk.fx_rn h.fx ρ;have cW:=Qi n f g bx tp nr md;unfold cfV
 cases hc:fk n f g bx tp nr md with
 | true =>
  exact FC
 | false =>
  exact FC
theorem YU (g bx tp nr md:Int):Ret prog G0 84 #[.agg #[.slice none 0 0,.int .i64 g,.int .i64 bx,.int .i64 tp,.int .i64 nr,.int .i64 md]] (.string ⟨#[98,111,100,105,101,115]⟩):=by
 refine aU G0F func84 rfl call84 zS zS (by simp [ntmps84]) ?_;intro C hC bA hY;have h4:wiB 0 1 4=false:=zD;refine cA h4 ?_;exact eR results84
@[simp] theorem azj (g bx tp nr md:Int) (K:fQ):bl prog G0 84 #[.agg #[.slice none 0 0,.int .i64 g,.int .i64 bx,.int .i64 tp,.int .i64 nr,.int .i64 md]] K↔K (.string ⟨#[98,111,100,105,101,115]⟩):=ar G0W ah (YU g bx tp nr md)

theorem W8 (g bx tp nr md:Int):Ret prog G0 53 #[cfV (.slice none 0 0) g bx tp nr md] (.int .i64 110):=by
 unfold cfV;refine aU G0F func53 rfl call53 zS zS (by simp [ntmps53]) ?_;intro C hC bA hY;have cW:adH ⟨#[98,111,100,105,101,115]⟩ ⟨#[]⟩=true:=dZ;refine cA cW ?_;exact eR results53
@[simp] theorem av3 (g bx tp nr md:Int) (K:fQ):bl prog G0 53 #[.agg #[.slice none 0 0,.int .i64 g,.int .i64 bx,.int .i64 tp,.int .i64 nr,.int .i64 md]] K↔K (.int .i64 110):=ar G0W ah (W8 g bx tp nr md)
end Go.Gy
namespace Go.Gy
open Go Go.RowKit
theorem Ik {C:Ctx} {G:Hp} {s:GS} {m L:cf} (ρ:dR) (l:List (Nat×Value)) (B:Nat) (hG:C.G=G) (eg:c7 G) (hL:LOk L 200) (vq:∀ p∈L,p.2.fx) (h0:C.hp0=hpL G L) (hB:200<=B)
  (hl:∀ p∈l,s.ts p.1=ren ρ p.2/\s.ts p.1≠fP/\aL (dom (hpL G (m++L))) p.2)
  (hm:∀ p∈m,s.hp (ρ p.1)=some (p.2.rn ρ)/\p.2.ids (dom (hpL G (m++L)))/\200<=p.1/\p.1<B/\200<=ρ p.1)
  (hi:∀ p∈m,∀ q∈m,ρ p.1=ρ q.1->p.1=q.1) (kL:∀ k,k<200->ρ k=k) (hk:∀ p∈L,s.hp p.1=some p.2):WeakR C ρ s ⟨tsL l,hpL G (m++L),B,s.yc⟩:=by
 refine mC ρ l B hG eg h0 zO hl (λp hp=>?_) (λp hp q hq e=>?_) (λk hk=>kL k zO) (λp hp=>?_)
 ·rcases bh.1 hp with h|h
  ·have:=hm p h;exact ⟨this.1,this.2.1,zO,this.2.2.2.1,zO⟩
  ·have hb:=hL.big p h;rw [kL p.1 hb.2,Blk.fx_rn (vq p h) ρ];exact ⟨hk p h,Blk.fx_ids (vq p h) _,hb.1,zO,hb.1⟩
 ·rcases bh.1 hp with h|h<;>rcases bh.1 hq with h'|h'
  ·exact hi p h q h' e
  ·have:=(hm p h).2.2.2.2;have hb:=hL.big q h';rw [kL q.1 hb.2] at e;omega
  ·have:=(hm q h').2.2.2.2;have hb:=hL.big p h;rw [kL p.1 hb.2] at e;omega
  ·rw [kL p.1 (hL.big p h).2,kL q.1 (hL.big q h').2] at e;exact e
 ·have hb:=hL.big p hp;exact ⟨hb.1,jx (aC.2 ⟨p,hp,rfl⟩),kL p.1 hb.2⟩
end Go.Gy
namespace Go.Gy
open Go Go.RowKit Go.Proofs Go.Proofs.Tryz
theorem jN {n:Nat} {f:aJ} {g bx tp nr md:Int} (h:fk n f g bx tp nr md=true) {i:Nat} (hi:i<n):1<=f i/\f i<=1024:=by
 unfold fk at h;simp only [bn] at h;have h2:=h.2.1;unfold zp at h2;rw [cX] at h2;have:=h2 i nN;unfold wiB at this;exact Rh
theorem Mr {n:Nat} {f:aJ} {g bx tp nr md:Int} (h:fk n f g bx tp nr md=true):1<=g/\g<=1048576:=by
 unfold fk at h;simp only [bn] at h;have:=h.2.2.1;unfold wiB at this;exact Rh
theorem kC {n n2:Nat} {Gt rt:Bool}:oB n n2 Gt rt=true↔n=n2/\Gt=true/\rt=true:=by
 unfold oB;simp
theorem ug {a m:Int} (h:inW m a):0<=a*a/\a*a<=m*m:=by
 obtain ⟨h0,h1,h2⟩:=h;by_cases c:0<=a
 ·exact ⟨bK c c,cU h2 h2 c h0⟩
 ·rw [<-lh];exact ⟨bK zO zO,cU zO zO zO h0⟩
theorem oI {b:Blk} {off n:Nat} {f:aJ} (h:SB b off n f) (i:Nat) (hi:i<n) (o:Nat) (e:o=off+i*6):fB prog 72 b o=some (.agg #[.int .i64 (f (6*i)),.int .i64 (f (6*i+1)),.int .i64 (f (6*i+2)),.int .i64 (f (6*i+3)),.int .i64 (f (6*i+4)),.int .i64 (f (6*i+5))]):=by rw [e];exact h.body hi
theorem oJ {b:Blk} {off n:Nat} {f:aJ} (h:MB b off n f) (i:Nat) (hi:i<n) (o:Nat) (e:o=off+i):fB prog 3 b o=some (.int .i64 (f i)):=by rw [e];exact h.at hi
def ezB (cq:ca):Blk:=⟨cq,.raw 24 (0,0)⟩
theorem akz {cq:ca} {ρ:dR}:(ezB cq).rn ρ=ezB cq:=rfl
theorem Vj {cq:ca} {D:iH}:(ezB cq).ids D:=trivial
theorem ais {cq:ca} {g:Int} (h1:cq[1]? = some (.int .i64 g)):fB prog 3 ⟨cq,.raw 24 (0,0)⟩ 1=some (.int .i64 g):=by
 unfold fB;simp [h1,bp,bU,qK]
theorem eIn {gW:List Nat} {f g:Hp} {k:Nat} (h:k∈gW):gT gW f g k=f k:=ag h
theorem eNi {gW:List Nat} {f g:Hp} {k:Nat} (h:k∉gW):gT gW f g k=g k:=ae h
theorem afz {G:Hp}:∀ {L:cf} {k:Nat},k∉ak L->hpL G L k=G k
 | [],_,_=>rfl
 | (q,c)::L,k,h=>by
  simp only [ak,bI,aj,not_or] at h;rw [bV,ae h.1];exact afz h.2
def d2F (f:aJ) (i k:Nat):Int:=(f (6*i) - f (6*k))*(f (6*i) - f (6*k))+(f (6*i+1) - f (6*k+1))*(f (6*i+1) - f (6*k+1))+(f (6*i+2) - f (6*k+2))*(f (6*i+2) - f (6*k+2))
theorem UB (a b:Int):(a - b)*(a - b)=(b - a)*(b - a):=by
 rw [(zO:a - b=-(b - a)),lh]
theorem Ve (f:aJ) (i k:Nat):d2F f i k=d2F f k i:=by
 unfold d2F;rw [UB (f (6*i)),UB (f (6*i+1)),UB (f (6*i+2))]
theorem yk {p:Prop} (h:p:=by
 have BB:=λD=>Blk.fx_ids (uX c' g') D;have hfm:=λρ=>nY (show Blk.fx ⟨fa (4*c') .u64 g',.ty 30⟩ from uX c' g') ρ;unfold qZ at BB;refine Ik (s:=GS.mk _ _ _ 0) _ _ 300 hC G0F hT.ok hT.fx bA zO ?_ ?_ ?_ ?_ fS
 ·simp [A4,qZ,dom,fP,ren,aW,aw,aF,aL,cQ,aI,aP,pZ,hA,hS,cW]
 ·simp [A4,qZ,cfB,cE,wb,Blk.rn,aw,aF,aM,aI,aP,dom,BB,hfm,hA,hS,cW,ct]
 ·simp [A4]
 ·intro k hk;simp<;>omega):p:=h
def uJ (fm fs:aJ) (i:Nat):Int:=fm i*dtV (fs (6*i+3)) (fs (6*i+4)) (fs (6*i+5)) (fs (6*i+3)) (fs (6*i+4)) (fs (6*i+5))
def KM (fm fs:aJ) (n:Nat):Int:=dh (uJ fm fs) n*524288
def amc (n n2:Nat) (Gt rt:Bool):Int:=if oB n n2 Gt rt=true then 0 else 2
def amd (n n2:Nat) (Gt rt:Bool) (fm fs:aJ):Int:=if oB n n2 Gt rt=true then KM fm fs n2 else 0
theorem akt {a b c:Int} (h0:inW 65536 a) (h1:inW 65536 b) (h2:inW 65536 c):dtV a b c a b c=a*a+b*b+c*c/\0<=dtV a b c a b c/\dtV a b c a b c<=12884901888:=by
 have e:dtV a b c a b c=a*a+b*b+c*c:=by
  unfold dtV;rw [ag];unfold inW at h0 h1 h2;unfold fnI;omega
 have s0:=ug h0;have s1:=ug h1;have s2:=ug h2;rw [e];refine ⟨rfl,zO,zO⟩
theorem Ib {n:Nat} {fm fs:aJ} {st g bx tp nr md:Int} (hc:fk n fm g bx tp nr md=true) (hr:aY st fs n=true) {i:Nat} (hi:i<n):0<=uJ fm fs i/\uJ fm fs i<=13194139533312:=by
 have h1:=jN hc hi;obtain ⟨_,h2,h3,h4⟩:=jy hr hi;obtain ⟨_,d0,d1⟩:=akt h2 h3 h4;unfold uJ;exact ⟨bK zO d0,cU h1.2 d1 d0 zO⟩
def avQ (nk i:Nat) (x:aJ) (sl:Value) (ns:cf):Prop:=(i=0/\sl=.slice none 0 0/\ns=[])\/∃ (c:Nat) (g:aJ),0<i/\i<=c/\(∀ j,j<4*i->g j=wF x j)/\sl=.slice (some ⟨nk,0,none⟩) i c/\ns=[(nk,qZ c g)]
def A4 (ks off n cap au n2 av:Nat) (g bx tp nr md st:Int):List (Nat×Blk):=[(200,cfB (.slice (some ⟨100,off,none⟩) n cap) g bx tp nr md),(208,cE st ks au n2 av),(216,wb 0)]
def O2 (L:cf) (ks off n cap au n2 av:Nat) (g bx tp nr md st:Int) (i:Nat) (sl:Value) (ns:cf):GS :=
 ⟨tsL [(2,.pointer (some ⟨200,0,none⟩)),(3,.pointer (some ⟨208,0,none⟩)),(4,.pointer (some ⟨216,0,none⟩)),(5,.int .i64 0),(6,sl),(19,.slice (some ⟨ks,au,none⟩) n2 av),(20,.int .i64 n2),(21,.int .i64 i)],
 hpL G0 ((A4 ks off n cap au n2 av g bx tp nr md st++ns)++L),300,0⟩
def kiI (L:cf) (ks off n cap au n2 av:Nat) (g bx tp nr md st:Int) (x:aJ) (m:Nat) (s:GS):Prop:=∃ i sl ns,i+m=n2/\avQ 224 i x sl ns/\s=O2 L ks off n cap au n2 av g bx tp nr md st i sl ns
theorem akv (L:cf) (ks:Nat) (bm bs:Blk) (hT:LTwo G0 L ks bm bs) (off n cap au n2 av:Nat) (fm fs:aJ) (hm:MB bm off n fm) (fO:SB bs au n2 fs) (eK:n<=cap) (fL:n2<=av) (g bx tp nr md st:Int) (hs:i64 st) :
  Fun prog G0 67 #[cfV (.slice (some ⟨100,off,none⟩) n cap) g bx tp nr md,.agg #[.int .i64 st,.slice (some ⟨ks,au,none⟩) n2 av]] (hpL G0 L) (ak L) (.ret (.tuple #[wd (amd n n2 (fk n fm g bx tp nr md) (aY st fs n2) fm fs),.int .i64 (amc n n2 (fk n fm g bx tp nr md) (aY st fs n2))]) []):=by
 refine cg (B:=200) G0F func67 rfl call67 hT.ok ?_ (bw zS) zS zS (by simp [ntmps67]) zO ?_
 ·exact Si
 intro C hC bA hY;have hA:=hT.a;have hS:=hT.s;have cW:=hT.ne;have jj:=hT.low;have pV:=hT.k1;have n6:=hT.k2;have Qw:=λρ=>Blk.fx_rn hm.fx ρ;have Su:=λρ=>Blk.fx_rn fO.fx ρ;have eI:=AZ L ks bm bs hT off n cap au n2 av fm fs hm fO g bx tp nr md st hs;unfold amd amc
 cases hf:oB n n2 (fk n fm g bx tp nr md) (aY st fs n2) with
 | false =>
  rw [hf] at eI;unfold cfV at eI |-
  repeat' first|refine cT ?_|((first|refine gwR [94] ?_|refine gwD [94] ?_);intro Q hQ _;(repeat first|simp [hC,hY,hA,hS,cW,ct]|refine cV eI hT.ok fS ?_);refine dq hQ ?_)|fail
  refine ⟨.inr rfl,by simp [results67,ct],Aj G0F⟩
 | true =>
  rw [hf] at eI;obtain ⟨Lk,eM,jh⟩:=kC.1 hf;subst Lk;have Lj:=(ji jh).2.1;unfold cfV at eI |-
  repeat' first|refine cT ?_|((first|refine gwR [94] ?_|refine gwD [94] ?_);intro Q hQ _;(repeat first|simp [hC,hY,hA,hS,cW,ct]|refine cV eI hT.ok fS ?_);refine dq hQ ?_)|fail
  refine jL (kiI L ks off n cap au n av g bx tp nr md st (uJ fm fs)) (m0:=n) (s0:=O2 L ks off n cap au n av g bx tp nr md st 0 (.slice none 0 0) []) ?_ ⟨0,_,_,zO,.inl ⟨rfl,rfl,rfl⟩,rfl⟩ ?_
  ·refine uY _ 300 hC G0F hT.ok hT.fx bA zO ?_ ?_ fS
   ·simp [A4,aL,cQ,aI,aP,dom,hA,hS,cW]
   ·simp [A4,cfB,cE,wb,aM,aI,aP,dom,hA,hS,cW,ct]
  rintro m _ ⟨i,sl,ns,zM,hV,rfl⟩;by_cases vw:m=0
  ·obtain rfl:i=n:=zO;rcases hV with ⟨h0,_,_⟩|⟨c,gg,ma,H5,hg,rfl,rfl⟩
   ·exact absurd h0 zO
   have Oz:=λD=>Blk.fx_ids (uX c gg) D;have hgr:=λρ=>Blk.fx_rn (uX c gg) ρ;have OO:=adU c i gg (uJ fm fs) H5 zO hg λj hj=>by have:=Ib eM jh hj;omega
   have hb:=Br (f:=uJ fm fs) (n:=i) (lo:=0) (hi:=13194139533312) λj hj=>Ib eM jh hj;have lY:dh (uJ fm fs) i<=4*13194139533312:=cC hb.2 (fE zO zO);have kF:0<=dh (uJ fm fs) i:=zO;have w1:=gB (Im kF zO);have w2:sz 524288=524288:=zD;have i2:i64 524288:=zD;have ek:KM fm fs i=dh (uJ fm fs) i*524288:=rfl;unfold qZ at Oz hgr OO;unfold O2 A4 cfB cE wb qZ
   repeat' first|refine cT ?_|((first|refine gwR [100] ?_|refine gwD [100] ?_);intro Q hQ _;(repeat first|simp [hC,hY,hA,hS,cW,w1,w2,i2,ct]|refine aE OO G0F (B:=200) (Wx c gg) (λk=>if k=100 then 224 else k) (λk hk=>ae zO) aN zS (by simp [hgr]) ai ax ?_);refine dq hQ ?_)|fail
   refine ⟨.inr rfl,by simp [results67,ek],Aj G0F⟩
  ·have ew:i<n:=zO;have cS:(i:Int)<n:=zO;have hz:(0:Int)<=i:=zO;have pZ:Int.bmod ((i:Int)+1) 18446744073709551616=((i+1:Nat):Int):=by rw [Go.Gy.bm zO zO];rfl
   have hl:=fO.body ew;have iw:=hm.at ew;have hkb:=Ib eM jh ew;have hkx:uJ fm fs i=fm i*dtV (fs (6*i+3)) (fs (6*i+4)) (fs (6*i+5)) (fs (6*i+3)) (fs (6*i+4)) (fs (6*i+5)):=rfl;have alr:Int.bmod (fm i*dtV (fs (6*i+3)) (fs (6*i+4)) (fs (6*i+5)) (fs (6*i+3)) (fs (6*i+4)) (fs (6*i+5))) 18446744073709551616=uJ fm fs i:=by rw [<-hkx];exact Go.Gy.bm zO zO
   have Zg:i64 (uJ fm fs i):=⟨zO,zO⟩
   rcases hV with ⟨rfl,rfl,rfl⟩|⟨c,gg,ma,H5,hg,rfl,rfl⟩
   ·simp only [fF,Nat.zero_mul,du,cD] at hl iw alr;unfold O2 A4 cfB cE wb;refine cA (CT hA hS cW ew cS hz pZ hl iw @ct) ?_;refine uv ?_;simp only [Array.toList];refine QG 10 ?_;intro Q hQ;simp [hC,hY,hA,hS,cW,ew,cS,hz,pZ,hl,iw,alr,Zg,ct];apply hQ;simp only [wT,wM,Nat.reduceAdd];refine vA .u64 (m:=4) (i:=0) (j:=508) (o9:=32) (z:=.agg #[.int .u64 0,.int .u64 0,.int .u64 0,.int .u64 0]) (T2:=.ty 30) (G:=wF (uJ fm fs)) (ev:=λu=>wi (uJ fm fs 0) u) rfl zS rfl underlying118 (aG sizeOf30) ah ah zO cZ cZ zO zO (.inl ⟨rfl,zS⟩) zS (by simp [vn]) (λu hu=>?_) zO ?_
    ·unfold wF;rw [(zO:(4*0+u) / 4=0),(zO:(4*0+u)%4=u)]
    ·rintro k' c' g' jR zN qX Oy
     obtain rfl:k'=516:=by
      rcases jR with jR|⟨c,jR⟩
      ·exact jR
      ·simp at jR
     refine qM trivial ?_;refine cu ?_;refine cA pZ ?_;refine ⟨λk=>if k=224 then 516 else k,O2 L ks off n cap au n av g bx tp nr md st (0+1) (.slice (some ⟨224,0,none⟩) (0+1) c') [(224,qZ c' g')],n - (0+1),?_,⟨0+1,_,_,zO,.inr ⟨c',g',zO,qX,Oy,rfl,rfl⟩,rfl⟩,zO⟩;exact yk
   ·have Oz:=λD=>Blk.fx_ids (uX c gg) D;unfold qZ at Oz;unfold O2 A4 cfB cE wb qZ;refine cA (CT hA hS cW ew cS hz pZ hl iw @ct) ?_;refine uv ?_;simp only [Array.toList];refine QG 10 ?_;intro Q hQ;simp [hC,hY,hA,hS,cW,ew,cS,hz,pZ,hl,iw,alr,Zg,ct];apply hQ;simp only [wT,wM,Nat.reduceAdd];refine vA .u64 (m:=4) (i:=i) (j:=508) (o9:=32) (z:=.agg #[.int .u64 0,.int .u64 0,.int .u64 0,.int .u64 0]) (T2:=.ty 30) (G:=wF (uJ fm fs)) (ev:=λu=>wi (uJ fm fs i) u) rfl zS rfl underlying118 (aG sizeOf30) ah ah zO cZ cZ zO zO (.inr ⟨224,c,gg,zO,zS,zS,H5,hg⟩) zS (by simp [vn]) (λu hu=>?_) zO ?_
    ·unfold wF;rw [(zO:(4*i+u) / 4=i),(zO:(4*i+u)%4=u)]
    ·rintro k' c' g' jR zN qX Oy
     have jR:k'=516\/k'=224:=by
      exact ED
     rcases jR with rfl|rfl
     ·
      refine qM trivial ?_;refine cu ?_;refine cA pZ ?_;refine ⟨λk=>if k=224 then 516 else k,O2 L ks off n cap au n av g bx tp nr md st (i+1) (.slice (some ⟨224,0,none⟩) (i+1) c') [(224,qZ c' g')],n - (i+1),?_,⟨i+1,_,_,zO,.inr ⟨c',g',zO,qX,Oy,rfl,rfl⟩,rfl⟩,zO⟩;exact yk
     ·
      refine qM trivial ?_;refine cu ?_;refine cA pZ ?_;refine ⟨λk=>k,O2 L ks off n cap au n av g bx tp nr md st (i+1) (.slice (some ⟨224,0,none⟩) (i+1) c') [(224,qZ c' g')],n - (i+1),?_,⟨i+1,_,_,zO,.inr ⟨c',g',zO,qX,Oy,rfl,rfl⟩,rfl⟩,zO⟩;exact yk
end Go.Gy
