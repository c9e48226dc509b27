/-
  Lemmas of this claim, in their order (GyLE, GyLG, GyLH, GyM, GyX1, GyX2, GyX3, GyX4, GyX5, GyX6, GyL2, GyX7, GyQ1, GyY1, GyY2, GyY3, GyY4, GyY5, GyY6, GyY7, GyZ1, GyZ2, GyZ3, GyW1, GyU1, GyPU, GyV2, GyVA, GyRA, GyRB, GyDM, GyQA).
  Conditions: those of each theorem.
-/
import Derived.Test.YtekhnalfccakmaaGreatDoorGz03
import Derived.Laws.Externs
import Derived.Laws.MathBits
set_option linter.unusedSimpArgs false
set_option linter.unusedVariables false
set_option maxRecDepth 20000
set_option maxHeartbeats 4000000
namespace Go.Gy
open Go Go.RowKit
theorem wg {p:Prop} (h:p:=by exact absurd (aD.2 ⟨q,hq,e1⟩) hx):p:=h
theorem xD {p:Prop} (h:p:=by
 exact absurd (congrArg Prod.snd (LM TL hp1 hm e1)) e):p:=h
theorem FH {p:Prop} (h:p:=by
 induction N with
 | nil=>cases hp
 | cons a l ih =>
  simp only [bJ,gO] at h;rcases al.1 hp with rfl|hp1<;>rcases al.1 hq with rfl|nc
  ·rfl
  ·exact absurd (aD.2 ⟨q,nc,e.symm⟩) h.1
  ·exact absurd (aD.2 ⟨p,hp1,e⟩) h.1
  ·exact ih h.2 hp1 nc):p:=h
theorem sc {p:Prop} (h:p:=by
 rw [aj _ _ (λe=>hu (aD.2 ⟨_,hm,e.symm⟩))];exact h.t0 u hu):p:=h
theorem D3 {p:Prop} (h:p:=by
 by_cases e:p.2=t
 ·have:=QW RE hp1 hm e;subst this;rw [<-hv];exact bj _ _ _
 ·rw [aj _ _ e];rcases QV hl with e1|h1
  ·exact xD
  ·exact h.tm p hp1 h1):p:=h
abbrev Ju := Nat -> Blk
structure TI (N:List (Nat×Nat)) (V:eM) (X:List (Nat×Nat)) (Bk:Ju) (iP:eM) (hp0:Hp) (listed:Array Bool) (ts:eM) (hp:Hp):Prop where
 t0:∀ t,t∉N.map Prod.snd->ts t=iP t
 tm:∀ p∈N,listed[p.1]? = some true->ts p.2=V p.1
 h0:∀ k,k∉X.map Prod.snd->hp k=hp0 k
 bx:∀ q∈X,listed[q.1]? = some true->hp q.2=some (Bk q.1)
theorem QV {listed:Array Bool} {i j:Nat} (h:(listed.setIfInBounds i true)[j]? = some true):j=i\/listed[j]? = some true:=by
 rw [fU] at h;split at h
 ·rename_i e;exact .inl e.symm
 ·exact .inr h
theorem QW {N:List (Nat×Nat)} (h:(N.map Prod.snd).Nodup) {p q:Nat×Nat} (hp:p∈N) (hq:q∈N) (e:p.2=q.2):p=q:=by
 exact FH
theorem LM {N:List (Nat×Nat)} (h:(N.map Prod.fst).Nodup) {p q:Nat×Nat} (hp:p∈N) (hq:q∈N) (e:p.1=q.1):p=q:=by
 exact FH
section
variable {N X:List (Nat×Nat)} {V:eM} {Bk:Ju} {iP ts:eM} {hp0 hp:Hp} {listed:Array Bool}
theorem TI.start (hl:∀ j:Nat,listed[j]?≠some true):TI N V X Bk iP hp0 listed iP hp0:=⟨λ_ _=>rfl,λp _ h=>absurd h (hl _),λ_ _=>rfl,λq _ h=>absurd h (hl _)⟩
theorem TI.tmp (TL:(N.map Prod.fst).Nodup) (RE:(N.map Prod.snd).Nodup) (h:TI N V X Bk iP hp0 listed ts hp) {i t:Nat} {v:Value} (hm:(i,t)∈N) (hv:V i=v) (hx:i∉X.map Prod.fst):TI N V X Bk iP hp0 (listed.setIfInBounds i true) (upd ts t v) hp:=by
 refine ⟨λu hu=>?_,λp hp1 hl=>?_,h.h0,λq hq hl=>?_⟩
 ·exact sc
 ·exact D3
 ·rcases QV hl with e1|h1
  ·exact wg
  ·exact h.bx q hq h1
theorem TI.new (TL:(N.map Prod.fst).Nodup) (RE:(N.map Prod.snd).Nodup) (PL:(X.map Prod.fst).Nodup) (hX2:(X.map Prod.snd).Nodup) (h:TI N V X Bk iP hp0 listed ts hp) {i t k:Nat} {v:Value} {b:Blk} (hm:(i,t)∈N) (hv:V i=v) (hx:(i,k)∈X) (hb:Bk i=b):TI N V X Bk iP hp0 (listed.setIfInBounds i true) (upd ts t v) (upd hp k (some b)):=by
 refine ⟨λu hu=>?_,λp hp1 hl=>?_,λu hu=>?_,λq hq hl=>?_⟩
 ·exact sc
 ·exact D3
 ·rw [aj _ _ (λe=>hu (aD.2 ⟨_,hx,e.symm⟩))];exact h.h0 u hu
 ·by_cases e:q.2=k
  ·have:=QW hX2 hq hx e;subst this;rw [<-hb];exact bj _ _ _
  ·rw [aj _ _ e];rcases QV hl with e1|h1
   ·exact absurd (congrArg Prod.snd (LM PL hq hx e1)) e
   ·exact h.bx q hq h1
theorem TI.chg {V':eM} {VI:Ju} (h:TI N V X Bk iP hp0 listed ts hp) (hv:∀ p∈N,listed[p.1]? = some true->V p.1=V' p.1) (hb:∀ q∈X,listed[q.1]? = some true->Bk q.1=VI q.1):TI N V' X VI iP hp0 listed ts hp :=
 ⟨h.t0,λp hp1 hl=>(h.tm p hp1 hl).trans (hv p hp1 hl),h.h0,λq hq hl=>(h.bx q hq hl).trans (by rw [hb q hq hl])⟩
end
section
variable {P:Program} {C:Ctx} {n:Nat} {d:List Deferred} {ro:Option Nat} {K:kV}
theorem OY {ops:Array Oper} {base fuel yc:Nat} {listed:Array Bool} {ts:eM} {hp:Hp} (F:(Nat->Value)->Hp->Prop) (h:F ts hp) (H:∀ iP hp0,F iP hp0->GA P C n d ro ops base fuel listed iP hp0 yc K):GA P C n d ro ops base fuel listed ts hp yc K:=H _ _ h
theorem sG {G:Hp} {ops:Array Oper} {o:Oper} {base i fuel:Nat} {listed:Array Bool} {ts:eM} {hp db:Hp} {yc:Nat} {c:Call} {f:Operand} {g:FuncId} {cap:bV} {rs:List Nat} {args:bV} {R:AI} (hCG:C.G=G) (hr:FunS P G g args db rs R) (hio:ops[i]? = some o) (hi:listed[i]? = some false) (hg:gn ops o ts=some true) (hd:∀ dd,o.dst=some dd->dd<n)
  (ho:o.op=.call c) (hc:c.callee=.value f) (hf:okT ts f) (AF:gev ts f=.func (.func g) #[] cap) (JV:cap.all da=true) (ha:∀ x∈c.args.toList,okX ts hp x) (kv:c.args.map (gev ts)++cap=args)
  (h1:∀ q∈rs,db q=hp q) (h2:∀ q,q<100->db q=hp q) (m9:∀ v ns,R v ns->∀ q∈ak ns,base+8*i<=q/\q<base+8*i+8)
  (h:∀ v ns,R v ns->GA P C n d ro ops base fuel (listed.setIfInBounds i true) (dk ts o.dst v) (bW hp ns) yc K):GO P C n d ro ops base fuel listed i ts hp yc K:=by
 subst hCG;intro r a W TM L5 hb hG hR;unfold wpOpIn;rw [hio];simp only;rw [pS TM.rel hg];simp only [aU];exact D8
end
theorem DL {p:Prop} (h:p:=by
 rw [fU];have:=(a9.1 hi).1;split
 ·rename_i e;subst e;simp [this]
 ·rename_i e;exact ⟨.inr,λh=>h.resolve_left λx=>e x.symm⟩):p:=h
theorem EB {p:Prop} (h:p:=by
 have:=QW RE hp1 hm e;subst this;rw [<-hv];exact bj _ _ _):p:=h
theorem Em {p:Prop} (h:p:=by
 exact h.bx q hq h1 λq' y8 e cA zu=>zv q' y8 e cA ((o4 hi).2 (.inr zu))):p:=h
theorem DO {p:Prop} (h:p:=by
 rcases hn q hq e cA with h1|h1
 ·rw [h1,hi] at zu;cases zu
 ·have:=h.cl _ h1 zu;rw [hi] at this;cases this):p:=h
theorem Ds {p:Prop} (h:p:=by
 obtain ⟨a1,a2⟩:=h.put TL RE hi hm hv;obtain ⟨b1,b2⟩:=h.blk PL hi hx hb ho;exact ⟨a1,a2,b1,b2,h.cls hi hd⟩):p:=h
theorem Di {p:Prop} (h:p:=by
 have ne:∀ j,listed[j]? = some true->j≠i:=λj hj e=>by rw [e,hi] at hj;cases hj
 have nd:∀ j,listed[j]? = some true->(j,i)∉D:=λj hj hd=>by have:=h.cl _ hd hj;rw [hi] at this;cases this
 exact ⟨h.t0,λp hp1 hl=>(h.tm p hp1 hl).trans (hv _ (ne _ hl) (nd _ hl)),h.h0,λq hq hl zv=>(h.bx q hq hl zv).trans (by rw [hb _ (ne _ hl) (nd _ hl)]),h.cl⟩):p:=h
theorem zj {md:Region.Mode} {ops:Array Oper} {listed:Array Bool} (hs:listed.size=ops.size) (cA:(ops.toList.zipIdx.all λp=>p.1.after.all λe=>!Region.binds md e||decide (e.on<p.2))=true) (h:Region.ready md ops listed=[]):∀ i,i<ops.size->listed[i]? = some true:=by
 intro i
 induction i using Nat.strongRecOn with
 | _ i ih =>
  intro hi;have e1:listed[i]? = some listed[i]:=iE zO
  cases hb:listed[i] with
  | true=>rw [e1,hb]
  | false =>
   exfalso
   have:i∈Region.ready md ops listed:=(mem_ready hs).2 ⟨by rw [e1,hb],λo ho e he hbe=>by
    have hm:(o,i)∈ops.toList.zipIdx:=by
     rw [BD];simpa using ho
    have:=dL.1 cA _ hm;have:=cV.1 this e he;rw [hbe] at this;have h3:e.on<i:=by simpa using this
    exact ih _ h3 zO⟩
   rw [h] at this;cases this
structure TJ (N X D:List (Nat×Nat)) (V:eM) (Bk:Ju) (iP:eM) (hp0:Hp) (listed:Array Bool) (ts:eM) (hp:Hp):Prop where
 t0:∀ t,t∉N.map Prod.snd->ts t=iP t
 tm:∀ p∈N,listed[p.1]? = some true->ts p.2=V p.1
 h0:∀ k,(∀ q∈X,q.2=k->listed[q.1]?≠some true)->hp k=hp0 k
 bx:∀ q∈X,listed[q.1]? = some true->(∀ q'∈X,q'.2=q.2->q.1<q'.1->listed[q'.1]?≠some true)->hp q.2=some (Bk q.1)
 cl:∀ p∈D,listed[p.1]? = some true->listed[p.2]? = some true
theorem o4 {listed:Array Bool} {i j:Nat} (hi:listed[i]? = some false):(listed.setIfInBounds i true)[j]? = some true↔j=i\/listed[j]? = some true:=by
 exact DL
section
variable {N X D:List (Nat×Nat)} {V:eM} {Bk:Ju} {iP ts:eM} {hp0 hp:Hp} {listed:Array Bool}
theorem TJ.start (hl:∀ j:Nat,listed[j]?≠some true):TJ N X D V Bk iP hp0 listed iP hp0:=⟨λ_ _=>rfl,λp _ h=>absurd h (hl _),λ_ _=>rfl,λq _ h=>absurd h (hl _),λp _ h=>absurd h (hl _)⟩
theorem TJ.ext (h:TJ N X D V Bk iP hp0 listed ts hp) {k:Nat} (hk:k∉X.map Prod.snd):hp k=hp0 k:=h.h0 k λq hq e=>absurd (aD.2 ⟨q,hq,e⟩) hk
theorem TJ.put (TL:(N.map Prod.fst).Nodup) (RE:(N.map Prod.snd).Nodup) (h:TJ N X D V Bk iP hp0 listed ts hp) {i t:Nat} {v:Value} (hi:listed[i]? = some false) (hm:(i,t)∈N) (hv:V i=v):(∀ u,u∉N.map Prod.snd->upd ts t v u=iP u)/\∀ p∈N,(listed.setIfInBounds i true)[p.1]? = some true->upd ts t v p.2=V p.1:=by
 refine ⟨λu hu=>?_,λp hp1 hl=>?_⟩
 ·exact sc
 ·by_cases e:p.2=t
  ·exact EB
  ·rw [aj _ _ e];rcases (o4 hi).1 hl with e1|h1
   ·exact xD
   ·exact h.tm p hp1 h1
theorem TJ.cls (h:TJ N X D V Bk iP hp0 listed ts hp) {i:Nat} (hi:listed[i]? = some false) (hd:∀ p∈D,p.1=i->listed[p.2]? = some true):∀ p∈D,(listed.setIfInBounds i true)[p.1]? = some true->(listed.setIfInBounds i true)[p.2]? = some true:=λp hp1 hl =>
 (o4 hi).2 (.inr (((o4 hi).1 hl).elim (hd p hp1) (h.cl p hp1)))
theorem TJ.tmp (TL:(N.map Prod.fst).Nodup) (RE:(N.map Prod.snd).Nodup) (h:TJ N X D V Bk iP hp0 listed ts hp) {i t:Nat} {v:Value} (hi:listed[i]? = some false) (hd:∀ p∈D,p.1=i->listed[p.2]? = some true) (hm:(i,t)∈N) (hv:V i=v) (hx:i∉X.map Prod.fst):TJ N X D V Bk iP hp0 (listed.setIfInBounds i true) (upd ts t v) hp:=by
 obtain ⟨a,b⟩:=h.put TL RE hi hm hv;refine ⟨a,b,λk hk=>h.h0 k λq hq e hl=>hk q hq e ((o4 hi).2 (.inr hl)),λq hq hl zv=>?_,h.cls hi hd⟩;rcases (o4 hi).1 hl with e1|h1
 ·exact wg
 ·exact Em
theorem TJ.blk (PL:(X.map Prod.fst).Nodup) (h:TJ N X D V Bk iP hp0 listed ts hp) {i k:Nat} {b:Blk} (hi:listed[i]? = some false) (hx:(i,k)∈X) (hb:Bk i=b) (ho:∀ q∈X,q.2=k->i<q.1->(q.1,i)∈D) :
  (∀ u,(∀ q∈X,q.2=u->(listed.setIfInBounds i true)[q.1]?≠some true)->upd hp k (some b) u=hp0 u)/\∀ q∈X,(listed.setIfInBounds i true)[q.1]? = some true->(∀ q'∈X,q'.2=q.2->q.1<q'.1->(listed.setIfInBounds i true)[q'.1]?≠some true)->upd hp k (some b) q.2=some (Bk q.1):=by
 refine ⟨λu hu=>?_,λq hq hl zv=>?_⟩
 ·rw [aj _ _ (λe=>hu _ hx e.symm ((o4 hi).2 (.inl rfl)))];exact h.h0 u λq hq e hl=>hu q hq e ((o4 hi).2 (.inr hl))
 ·by_cases e:q.2=k
  ·have e2:q.1=i:=by
    rcases (o4 hi).1 hl with e1|h1
    ·exact e1
    ·rcases Nat.lt_trichotomy q.1 i with c|c|c
     ·exact absurd ((o4 hi).2 (.inl rfl)) (zv _ hx e.symm c)
     ·exact c
     ·have:=h.cl _ (ho q hq e c) h1;rw [hi] at this;cases this
   have:=LM PL hq hx e2;subst this;rw [<-hb];exact bj _ _ _
  ·rw [aj _ _ e];rcases (o4 hi).1 hl with e1|h1
   ·exact absurd (congrArg Prod.snd (LM PL hq hx e1)) e
   ·exact Em
theorem TJ.bxi (h:TJ N X D V Bk iP hp0 listed ts hp) {i w k:Nat} (hi:listed[i]? = some false) (hw:(w,k)∈X) (hl:listed[w]? = some true) (hn:∀ q∈X,q.2=k->w<q.1->q.1=i\/(q.1,i)∈D):hp k=some (Bk w) :=
 h.bx _ hw hl λq hq e cA zu=>by
  exact DO
theorem TJ.new (TL:(N.map Prod.fst).Nodup) (RE:(N.map Prod.snd).Nodup) (PL:(X.map Prod.fst).Nodup) (h:TJ N X D V Bk iP hp0 listed ts hp) {i t k:Nat} {v:Value} {b:Blk} (hi:listed[i]? = some false) (hd:∀ p∈D,p.1=i->listed[p.2]? = some true) (hm:(i,t)∈N) (hv:V i=v) (hx:(i,k)∈X) (hb:Bk i=b) (ho:∀ q∈X,q.2=k->i<q.1->(q.1,i)∈D):TJ N X D V Bk iP hp0 (listed.setIfInBounds i true) (upd ts t v) (upd hp k (some b)):=by
 exact Ds
theorem TJ.st (PL:(X.map Prod.fst).Nodup) (h:TJ N X D V Bk iP hp0 listed ts hp) {i k:Nat} {b:Blk} (hi:listed[i]? = some false) (hd:∀ p∈D,p.1=i->listed[p.2]? = some true) (hn:i∉N.map Prod.fst) (hx:(i,k)∈X) (hb:Bk i=b) (ho:∀ q∈X,q.2=k->i<q.1->(q.1,i)∈D):TJ N X D V Bk iP hp0 (listed.setIfInBounds i true) ts (upd hp k (some b)):=by
 obtain ⟨b1,b2⟩:=h.blk PL hi hx hb ho;refine ⟨h.t0,λp hp1 hl=>?_,b1,b2,h.cls hi hd⟩;rcases (o4 hi).1 hl with e1|h1
 ·exact absurd (aD.2 ⟨p,hp1,e1⟩) hn
 ·exact h.tm p hp1 h1
theorem TJ.chg {V':eM} {VI:Ju} {i:Nat} (h:TJ N X D V Bk iP hp0 listed ts hp) (hi:listed[i]? = some false) (hv:∀ j,j≠i->(j,i)∉D->V j=V' j) (hb:∀ j,j≠i->(j,i)∉D->Bk j=VI j):TJ N X D V' VI iP hp0 listed ts hp:=by
 exact Di
end
theorem w7 {p:Prop} (h:p:=by
 have:=h.k2;simp only [iC,iff_false];omega):p:=h
abbrev dC := @forall_eq_or_imp
abbrev bR := @forall_eq
structure LTwo (G:Hp) (L:bS) (ks:Nat) (b b2:Blk):Prop where
 ok:LOk L 200
 fx:∀ p∈L,p.2.fx
 ka:(100,b)∈L
 kb:(ks,b2)∈L
 k8:ks=100\/ks=108
section
variable {G:Hp} {L:bS} {ks:Nat} {b b2:Blk}
theorem LTwo.mem (h:LTwo G L ks b b2) (p:Nat×Blk) (hp:p∈L):hpL G L p.1=some p.2:=LOk.at h.ok.one p hp
theorem LTwo.a (h:LTwo G L ks b b2):hpL G L 100=some b:=h.mem _ h.ka
theorem LTwo.s (h:LTwo G L ks b b2):hpL G L ks=some b2:=h.mem _ h.kb
theorem LTwo.k1 (h:LTwo G L ks b b2):100<=ks:=(h.ok.big _ h.kb).1
theorem LTwo.k2 (h:LTwo G L ks b b2):ks<200:=(h.ok.big _ h.kb).2
theorem LTwo.ne (h:LTwo G L ks b b2) (k:Nat) (hk:200<=k):(ks=k)=False:=by
 exact w7
theorem LTwo.low (h:LTwo G L ks b b2) (k:Nat) (hk:k<100):hpL G L k=G k:=h.ok.low k hk
theorem LTwo.ia (h:LTwo G L ks b b2):100∈ak L:=aI.2 ⟨_,h.ka,rfl⟩
theorem LTwo.ib (h:LTwo G L ks b b2):ks∈ak L:=aI.2 ⟨_,h.kb,rfl⟩
theorem LTwo.fb (h:LTwo G L ks b b2):b2.fx:=h.fx _ h.kb
theorem LTwo.two {b b2:Blk} (h:b.fx) (h2:b2.fx):LTwo G [(100,b),(108,b2)] 108 b b2:=by
 refine ⟨⟨zS,ah,?_⟩,?_,zS,zS,.inr rfl⟩
 ·simp only [al,aB,aC,dC,bR];exact ⟨Blk.fx_ids h _,Blk.fx_ids h2 _⟩
 ·simp only [al,aB,aC,dC,bR];exact ⟨h,h2⟩
theorem LTwo.one {b:Blk} (h:b.fx):LTwo G [(100,b)] 100 b b:=by
 refine ⟨⟨zS,ah,?_⟩,?_,zS,zS,.inl rfl⟩
 ·simp only [al,aB,aC,bR];exact Blk.fx_ids h _
 ·simp only [al,aB,aC,bR];exact h
end
theorem sD {C:Ctx} {G:Hp} {s:GS} {m L:bS} (l:List (Nat×Value)) (B:Nat) (hG:C.G=G) (cK:ct G) (hL:LOk L 200) (zV:∀ p∈L,p.2.fx) (h0:C.hp0=hpL G L) (hB:200<=B) (hl:∀ p∈l,s.ts p.1=p.2/\aN (dom (hpL G (m++L))) p.2)
  (hm:∀ p∈m,s.hp p.1=some p.2/\p.2.ids (dom (hpL G (m++L)))/\200<=p.1/\p.1<B) (hk:∀ p∈L,s.hp p.1=some p.2):Weak C s ⟨tsL l,hpL G (m++L),B,s.yc⟩:=by
 refine dv l B hG cK h0 zO hl (λp hp=>?_) (λp hp=>?_)
 ·rcases cN.1 hp with h|h
  ·have:=hm p h;exact ⟨this.1,this.2.1,zO,this.2.2.2⟩
  ·have:=hL.big p h;exact ⟨hk p h,Blk.fx_ids (zV p h) _,this.1,zO⟩
 ·have hb:=hL.big p hp;refine ⟨hb.1,?_⟩;rw [hk p hp]
  have key:∀ (m:bS),(∀ q∈m,200<=q.1)->hpL G (m++L) p.1=some p.2:=by
   intro m
   induction m with
   | nil=>intro _;exact LOk.at hL.one p hp
   | cons q m ih =>
    intro hq;obtain ⟨k,c⟩:=q;rw [bq,aW];have:=hq (k,c) zS;simp only at this;rw [ab zO];exact ih λq h=>hq q (br _ h)
  exact key m λq hq=>(hm q hq).2.2.1
theorem dG {P:Program} {G:Hp} {L:bS} {f:FuncId} {args:bV} {v:Value} {hp:Hp} {nk:Nat} {K:Eff->Prop} (h:Fun P G f args (hpL G L) (ak L) (.ret v [])) (hL:LOk L 200) (hm:∀ p∈L,hp p.1=some p.2) (hK:K ((Res.ret v []).eff (ak L))):pI P G f args hp nk K:=by
 refine eX h (λk hk=>?_) hL.low trivial hK;obtain ⟨p,hp1,rfl⟩:=aI.1 hk;rw [LOk.at hL.one p hp1,hm p hp1]
theorem abj {G:Hp} {m L:bS} {k:Nat} (h:k∈ak L):dom (hpL G (m++L)) k:=by
 induction m with
 | nil =>
  obtain ⟨p,hp,rfl⟩:=aI.1 h;rw [bw];unfold dom
  induction L with
  | nil=>cases hp
  | cons q L ih =>
   obtain ⟨k,c⟩:=q;rw [aW];by_cases e:p.1=k
   ·rw [ai e];simp
   ·rw [ab e];refine ih ?_ ?_
    ·rcases al.1 hp with e1|h1
     ·exact absurd (congrArg Prod.fst e1) e
     ·exact h1
    ·rcases al.1 hp with e1|h1
     ·exact absurd (congrArg Prod.fst e1) e
     ·exact aI.2 ⟨p,h1,rfl⟩
 | cons q m ih =>
  obtain ⟨j,c⟩:=q;unfold dom;rw [bq,aW];split
  ·simp
  ·exact ih
end Go.Gy
namespace Go.Gy
open Go Go.RowKit Go.Proofs Go.Proofs.Tryz
abbrev jt := @Int.neg_mul_neg
abbrev qj := @Int.mul_neg

theorem bm {x:Int} (h0:-9223372036854775808<=x) (h1:x<9223372036854775808):Int.bmod x 18446744073709551616=x:=by
 rw [dz];split<;>omega
def um (z:Int):Int:=if sz z<0 then -sz z else sz z
theorem anE (z:Int):-57896044618658097711785492504343953926634992332820282019728792003956564819968<=sz z/\sz z<57896044618658097711785492504343953926634992332820282019728792003956564819968:=by
 unfold sz;rw [dz];constructor<;>split<;>omega
theorem afp (z:Int):0<=um z/\um z<=57896044618658097711785492504343953926634992332820282019728792003956564819968:=by
 have:=anE z;unfold um;split<;>omega
theorem QR (z:Int):sz z%115792089237316195423570985008687907853269984665640564039457584007913129639936=z%115792089237316195423570985008687907853269984665640564039457584007913129639936:=by
 unfold sz;rw [dz];split<;>omega
def Ae (a b:Int):Bool:=decide (¬(-57896044618658097711785492504343953926634992332820282019728792003956564819968<=sz a*sz b/\sz a*sz b<57896044618658097711785492504343953926634992332820282019728792003956564819968))
theorem Q0 (D:Int) (h:sz D=0):wi D 0=0/\wi D 1=0/\wi D 2=0/\wi D 3=0:=by
 have h1:=QR D;rw [h] at h1;simp only [wi];refine ⟨?_,?_,?_,?_⟩<;>omega
theorem adT (D:Int) (h:sz D=0):(!wi D 0==0||(!wi D 1==0||(!wi D 2==0||!wi D 3==0)))=false:=by
 obtain ⟨w0,w1,w2,w3⟩:=Q0 D h;simp [w0,w1,w2,w3]
theorem OL (D:Int) (h:¬sz D=0):(!wi D 0==0||(!wi D 1==0||(!wi D 2==0||!wi D 3==0)))=true:=by
 have:=wne D 0;simp at this;rw [this];have e:sz 0=0:=zD;simp [e,h]
theorem UD (a b:Int) (h:(ng a==ng b)=true):sz a*sz b=um a*um b:=by
 rw [Af,Af] at h;simp at h;unfold um;by_cases h1:sz a<0
 ·rw [ai h1,ai (h.1 h1),jt]
 ·rw [ab h1,ab (λh2=>h1 (h.2 h2))]
theorem Qr (a b:Int) (h:(ng a==ng b)=false):sz a*sz b=-(um a*um b):=by
 rw [Af,Af] at h;simp at h;unfold um;by_cases h1:sz a<0
 ·rw [ai h1,ab (λh2=>h ⟨λ_=>h2,λ_=>h1⟩),Int.neg_mul,Int.neg_neg]
 ·have h2:sz b<0:=aO λh2=>h ⟨λh3=>absurd h3 h1,λh3=>absurd h3 h2⟩;rw [ab h1,ai h2,qj,Int.neg_neg]
theorem II (D:Int) (h0:0<=D) (h1:¬115792089237316195423570985008687907853269984665640564039457584007913129639936<=D):sz D=if 57896044618658097711785492504343953926634992332820282019728792003956564819968<=D then D - 115792089237316195423570985008687907853269984665640564039457584007913129639936 else D:=by
 unfold sz;rw [dz];split<;>split<;>omega
theorem adB (D:Int) (h0:0<=D) (h1:¬115792089237316195423570985008687907853269984665640564039457584007913129639936<=D):sz (-D)=if 57896044618658097711785492504343953926634992332820282019728792003956564819968<D then 115792089237316195423570985008687907853269984665640564039457584007913129639936 - D else -D:=by
 unfold sz;rw [dz];split<;>split<;>omega
theorem oh {p:Prop} (h:p:=by simp [aN,cp,aL,aR,dom]):p:=h
theorem wE {p:Prop} (h:p:=by rw [e0];exact Jv _):p:=h
theorem wz {p:Prop} (h:p:=by rw [e0];exact λx hx=>KC x zO):p:=h
theorem DT {p:Prop} (h:p:=by
 refine ⟨dD,by simp [ak];omega,λq b c h1 h2=>?_⟩;simp at h1 h2;rcases h1 with ⟨e1,rfl⟩|⟨e1,rfl⟩<;>rcases h2 with ⟨e2,rfl⟩|⟨e2,rfl⟩<;>first|rfl|omega):p:=h
theorem fG {p:Prop} (h:p:=by
 rw [ab zO,ab zO]):p:=h
theorem C7 {p:Prop} (h:p:=by
 rw [e0];intro k c hk;rcases cB hk with h|h
 ·simp at h;rcases h with ⟨_,rfl⟩|⟨_,rfl⟩<;>simp [wb,aF,aL,aR]
 ·exact Blk.flat_ids ((G0F k c h).2)):p:=h
theorem F5 {p:Prop} (h:p:=by
 rw [e0];intro x hx;have h1:¬x=100:=zO;have h2:¬x=101:=zO;have h3:100<=x:=zO;simp [wHp,h1,h2,h3]):p:=h
theorem Ef {p:Prop} (h:p:=by
 refine dv _ 300 hC G0F (m0:=[(100,wb a),(101,wb b)]) bQ zO ?_ ?_ ?_
 ·exact oh
 ·simp [aF,aL,aR,wb]
 ·simp [wb]):p:=h
abbrev nN := @Nat.min_eq_right
abbrev nX := @Nat.min_eq_left

theorem ZL (z:Int):Ret prog G0 182 #[wd z] (.bool (ng z)):=by
 refine ck G0F func182 rfl call182 rfl zS (by simp [ntmps182]) ?_;intro C hC _ hY;refine fO ?_;refine ⟨.inr trivial,?_⟩;have:=eC z 3;have:=fi z 3;simp [results182,ng];rw [dz];split<;>omega
@[simp] theorem ax9 (z:Int) (K:iQ):cu prog G0 182 #[Value.agg #[.int .u64 (wi (z) 0),.int .u64 (wi (z) 1),.int .u64 (wi (z) 2),.int .u64 (wi (z) 3)]] K↔K (.bool (ng z)):=aP G0W ae (ZL z)

theorem Tf (x y c:Int) (hx:0<=x) (hy:0<=y) (h0:0<=c) (h1:c<=1):aaF prog 185 #[.int .u64 x,.int .u64 y,.int .u64 c] (.tuple #[.int .u64 ((x+y+c)%18446744073709551616),.int .u64 ((x+y+c) / 18446744073709551616)]):=by
 refine ⟨zS,zS,λw=>?_⟩;rw [run_callFunc_extern func185 ae ae ae (e:=add64Entry) ae,run_add64 x y c hx hy h0 h1];simp only [Result.andThen]
@[simp] theorem asU (x y c:Int) (hx:0<=x) (hy:0<=y) (h0:0<=c) (h1:c<=1) (K:iQ):cu prog G0 185 #[.int .u64 x,.int .u64 y,.int .u64 c] K↔K (.tuple #[.int .u64 ((x+y+c)%18446744073709551616),.int .u64 ((x+y+c) / 18446744073709551616)]):=Pg (Tf x y c hx hy h0 h1)

def wb (z:Int):Blk:=⟨#[.int .u64 (wi z 0),.int .u64 (wi z 1),.int .u64 (wi z 2),.int .u64 (wi z 3)],.ty 140⟩
theorem Vg (a b:Int) (k:Nat) (g5:100<=k):Fun prog G0 209 #[wd a,wd b] G0 [] (.new (.func (.func 216) #[] #[.pointer (some ⟨k,0,none⟩),.pointer (some ⟨k+1,0,none⟩)]) [(k,wb a),(k+1,wb b)]):=by
 have e0:rst G0 []=G0:=vA G0F [];refine Ih (B:=200) (λj=>if j=k then 200 else if j=k+1 then 208 else j) G0F (λ_ _=>rfl) func209 rfl call209 iT wE ?_ (by simp [ntmps209]) zO wz (λj hj=>?_) ?_ ?_ ?_ ?_
 ·exact DT
 ·rw [e0] at hj;have:=AM hj;rw [ab zO,ab zO]
 ·simp [e0,dom]
 ·simp
 ·simp [wb,aF,aL,aR]
 ·intro C hC bQ hY;rw [e0];refine fO ?_;refine ⟨.inr trivial,?_⟩;simp [results209,ren,aT,aw,aA,wb];intro j hj;have:=AM hj;exact fG
def nL (a b:Int):List (Array Value):=[#[.int .u64 (wi a 0),.int .u64 (wi b 0)],#[.int .u64 (wi a 1),.int .u64 (wi b 1)],#[.int .u64 (wi a 2),.int .u64 (wi b 2)],#[.int .u64 (wi a 3),.int .u64 (wi b 3)]]

def wHp (a b:Int):Hp:=hpL G0 [(100,wb a),(101,wb b)]
def Ha (a b:Int) (l i:Nat):GS :=
 ⟨tsL [(0,.func (.yield l) #[] #[]),(1,.pointer (some ⟨100,0,none⟩)),(2,.pointer (some ⟨101,0,none⟩)),(5,.int .i64 i)],wHp a b,300,i⟩
theorem ZO (a b:Int):pD prog G0 216 #[.pointer (some ⟨100,0,none⟩),.pointer (some ⟨101,0,none⟩)] (wHp a b) [100,101] (nL a b):=by
 have e0:rst (wHp a b) [100,101]=wHp a b:=kR G0F zS;refine G2 (B:=200) (v:=.tuple #[]) G0F (λk hk=>cD zS hk) func216 rfl call216 ?_ ?_ (by simp [ntmps216]) zO ?_ ?_
 ·rw [e0];simp [aN,cp,aL,aR,dom,wHp]
 ·exact C7
 ·exact F5
 ·intro C l stop hC bQ hY;rw [e0] at bQ |-;refine dy (k2 @wHp.eq_1 @wb.eq_1) ?_;refine jQ (min stop 4) (Ha a b l) ?_ ?_ ?_
  ·exact Ef
  ·intro i hi;have hs:i<stop:=zO;have hq:(i != stop)=true:=aE;have hle:i<=stop:=zO;have:i=0\/i=1\/i=2\/i=3:=zO;rcases this with rfl|rfl|rfl|rfl<;>unfold Ha wHp
   all_goals
    refine dy (k4 @nL.eq_1 hq hle @wb.eq_1) ?_
   all_goals
    exact Ef
  ·by_cases h4:4<=stop
   ·rw [nN h4];unfold Ha wHp;refine dy (k2 @nL.eq_1 @wb.eq_1) ?_;refine ⟨.inl trivial,?_⟩;simp [results216,nL];omega
   ·rw [nX zO];have:stop=0\/stop=1\/stop=2\/stop=3:=zO;rcases this with rfl|rfl|rfl|rfl<;>unfold Ha wHp
    all_goals
     refine dy (k2 @nL.eq_1 @wb.eq_1) ?_
    all_goals
     exact eR (k2 results216 @nL.eq_1)
theorem oJ {p:Prop} (h:p:=by simp [Res.at]):p:=h
theorem ga {p:Prop} (h:p:=by simp [aA]):p:=h
theorem gb {p:Prop} (h:p:=by
 simp [aN,cp,aL,aR,dom]):p:=h
abbrev cC := @Int.pow_add
abbrev j3 := @Int.ediv_ediv_of_nonneg

theorem YX (i:Nat):(2:Int)^(64*i)=2^(32*(2*i)):=by congr 1;omega
theorem adJ (a b c:Int) (i:Nat):(wi a i+wi b i+car a b c (2*i))%18446744073709551616=wi (a+b+c) i:=by
 unfold wi car;rw [YX,Px a b c _ (px (2*i))];omega
theorem adP (a b c:Int) (i:Nat):(wi a i+wi b i+car a b c (2*i)) / 18446744073709551616=car a b c (2*(i+1)):=by
 unfold wi car
 have e:(2:Int)^(32*(2*(i+1)))=2^(32*(2*i))*18446744073709551616:=by
  rw [show 32*(2*(i+1))=32*(2*i)+64 by omega,cC];rfl
 rw [YX,e,ve a _ _ (px (2*i)) zO,ve b _ _ (px (2*i)) zO];generalize hM:(2:Int)^(32*(2*i))=M;have hp:0<M:=hM▸px (2*i);have e:a%M+M*(a / M%18446744073709551616)+(b%M+M*(b / M%18446744073709551616))+c=(a%M+b%M+c)+M*(a / M%18446744073709551616+b / M%18446744073709551616):=by rw [fh];omega
 rw [e,<-j3 (dh hp),iD _ _ zO];congr 1;omega

theorem pD.cast {P:Program} {G:Hp} {f:FuncId} {bh sK:bV} {hp:Hp} {rs LG:List Nat} {xs:List (Array Value)} (h:pD P G f bh hp rs xs) (e1:bh=sK) (e2:rs=LG):pD P G f sK hp LG xs:=by subst e1 e2;exact h

theorem tO {D:gA} {l:List (Nat×Value)} (h:∀ p∈l,aN D p.2) (t:Nat):aN D (tsL l t):=by
 rcases nJ (l:=l) (t:=t) with e|e
 ·rw [e];simp [eY,aN,cp,aL,aR]
 ·exact h _ e
def YV (a b c:Int) (i:Nat):Hp:=hpL G0 [(200,wb a),(208,wb b),(216,⟨#[.int .u64 (car a b c (2*i))],.ty 138⟩),
 (224,⟨#[.int .u64 (if 0<i then wi (a+b+c) 0 else 0),.int .u64 (if 1<i then wi (a+b+c) 1 else 0),.int .u64 (if 2<i then wi (a+b+c) 2 else 0),.int .u64 (if 3<i then wi (a+b+c) 3 else 0)],.ty 140⟩),
 (232,⟨#[.int .i64 i],.ty 3⟩)]
def ade:Nat->Value:=tsL [(3,.pointer (some ⟨200,0,none⟩)),(4,.pointer (some ⟨208,0,none⟩)),(5,.pointer (some ⟨216,0,none⟩)),(6,.pointer (some ⟨224,0,none⟩)),(7,.pointer (some ⟨232,0,none⟩))]
theorem Vh (a b c:Int) (h0:0<=c) (h1:c<=1):Ret prog G0 198 #[wd a,wd b,.int .u64 c] (wd (a+b+c)):=by
 refine ck G0F func198 rfl call198 zS zS (by simp [ntmps198]) ?_;intro C hC bQ hY;refine fO ?_;refine iW [209] ae ?_;intro Q hQ hP;simp [hC,hY];refine eX (Vg a b 264 zO) zS (λ_ _=>rfl) oJ ?_;simp;refine hQ _ _ _ _ ?_;clear hQ hP Q;refine fO ?_;refine sH (f:=216) (rs:=[264,265]) (xs:=nL a b) (bh:=#[.pointer (some ⟨264,0,none⟩),.pointer (some ⟨265,0,none⟩)]) zS ?_ (by simp [nL]) (by simp [ntmps198]) ade (YV a b c) 300 4 (by simp [nL]) ?_ ?_ ?_ ?_ ?_
 ·rw [hC];refine pD.cast (IterX.rn (λk=>if k=100 then 264 else if k=101 then 265 else k) G0F (λk hk=>cD zS hk) (rs:=[100,101]) ?_ (ZO a b)) ga zS;refine ⟨λk hk=>?_,?_,?_,?_⟩
  ·have h1:¬k=100:=zO;have h2:¬k=101:=zO;have h3:¬k=200:=zO;have h4:¬k=208:=zO;have h5:¬k=216:=zO;have h6:¬k=224:=zO;have h7:¬k=232:=zO;have h8:¬k=264:=zO;have h9:¬k=265:=zO;simp [h1,h2,h3,h4,h5,h6,h7,h8,h9,wHp]
  ·simp
  ·simp [wHp,wb,Blk.rn,aw,aA]
  ·simp
 ·refine dv _ 300 hC G0F (m0:=[]) bQ zO ?_ ?_ ?_
  ·exact gb
  ·simp [aF,aL,aR,wb,Ww]
  ·simp
 ·simp [YV,dom]
 ·intro i hi t;refine tO ?_ t;simp [aN,cp,aL,aR,dom,YV]
 ·intro i x hi hx C1 l sR vl qS;have so:=hC;have je:C1.G=G0:=sR.trans hC;have c0:=λk=>(Wv a b c h0 h1 k).1;have c1:=λk=>(Wv a b c h0 h1 k).2;have A0:(wi a 0+wi b 0+car a b c 0)%18446744073709551616=wi (a+b+c) 0:=adJ a b c 0;have A1:(wi a 1+wi b 1+car a b c 2)%18446744073709551616=wi (a+b+c) 1:=adJ a b c 1;have A2:(wi a 2+wi b 2+car a b c 4)%18446744073709551616=wi (a+b+c) 2:=adJ a b c 2;have A3:(wi a 3+wi b 3+car a b c 6)%18446744073709551616=wi (a+b+c) 3:=adJ a b c 3;have B0:(wi a 0+wi b 0+car a b c 0) / 18446744073709551616=car a b c 2:=adP a b c 0;have B1:(wi a 1+wi b 1+car a b c 2) / 18446744073709551616=car a b c 4:=adP a b c 1;have B2:(wi a 2+wi b 2+car a b c 4) / 18446744073709551616=car a b c 6:=adP a b c 2;have B3:(wi a 3+wi b 3+car a b c 6) / 18446744073709551616=car a b c 8:=adP a b c 3;replace hC:=je;replace hY:=qS;have:i=0\/i=1\/i=2\/i=3:=zO;rcases this with rfl|rfl|rfl|rfl
  all_goals
   simp [nL] at hx;subst hx;unfold YV
  all_goals
   refine dy (k2 @bC.eq_1 @ade.eq_1) ?_
  all_goals
   intro C2 oY Gx oZ;replace hC:C2.G=G0:=oY.trans so;replace hY:=oZ;refine dy (k13 @bC.eq_1 @ade.eq_1 c0 c1 @eC A0 A1 A2 A3 B0 B1 B2 B3) ?_
  all_goals
   refine dv [] 300 je G0F vl zO ?_ ?_ ?_
   ·simp
   ·simp [aF,aL,aR,wb]
   ·simp [wb]
 ·left
  refine ⟨rfl,?_⟩;unfold YV ade;refine fO ?_;exact eR results198
@[simp] theorem auV (a b c:Int) (h0:0<=c) (h1:c<=1) (K:iQ):cu prog G0 198 #[Value.agg #[.int .u64 (wi (a) 0),.int .u64 (wi (a) 1),.int .u64 (wi (a) 2),.int .u64 (wi (a) 3)],Value.agg #[.int .u64 (wi (b) 0),.int .u64 (wi (b) 1),.int .u64 (wi (b) 2),.int .u64 (wi (b) 3)],.int .u64 c] K↔K (wd (a+b+c)):=aP G0W ae (Vh a b c h0 h1)
abbrev iA := @Int.fdiv_eq_ediv_of_nonneg
abbrev nO := @BitVec.toNat_ofInt
abbrev fR := @Int.ediv_eq_zero_of_lt

theorem ZE (a b:Int):Ret prog G0 195 #[wd a,wd b] (.tuple #[wd (a+b),.bool (ng a==ng b&&ng (a+b) != ng a)]):=by
 refine ck G0F func195 rfl call195 zS zS (by simp [ntmps195]) ?_;intro C hC bQ hY;cases hq:(ng a==ng b)
 all_goals
  repeat' first|refine cM ?_|(refine g6 ?_;intro Q hQ _;simp [hC,hY,hq];refine cQ hQ ?_)|refine gwC ?_ ?_<;>intro hb
  exact eR (k2 results195 hq)
@[simp] theorem ax2 (a b:Int) (K:iQ):cu prog G0 195 #[Value.agg #[.int .u64 (wi (a) 0),.int .u64 (wi (a) 1),.int .u64 (wi (a) 2),.int .u64 (wi (a) 3)],Value.agg #[.int .u64 (wi (b) 0),.int .u64 (wi (b) 1),.int .u64 (wi (b) 2),.int .u64 (wi (b) 3)]] K↔K (.tuple #[wd (a+b),.bool (ng a==ng b&&ng (a+b) != ng a)]):=aP G0W ae (ZE a b)
theorem SQ (n:Int) (h:i64 n):Ret prog G0 162 #[.int .i64 n] (wd n):=by
 refine ck G0F func162 rfl call162 zS zS (by simp [ntmps162]) ?_;intro C hC bQ hY
 repeat' first|refine cM ?_|refine gwW ?_|refine gwC ?_ ?_<;>intro hb
 refine ⟨.inr trivial,?_⟩;simp [results162,wi];unfold i64 at h;rw [iA _ zO];by_cases hn:n<0
 ·have e1:n / 9223372036854775808=-1:=zO;have e2:n / 18446744073709551616=-1:=zO;have e3:n / 340282366920938463463374607431768211456=-1:=zO;have e4:n / 6277101735386680763835789423207666416102355444464034512896=-1:=zO;rw [e1,e2,e3,e4];decide
 ·have e1:n / 9223372036854775808=0:=zO;have e2:n / 18446744073709551616=0:=zO;have e3:n / 340282366920938463463374607431768211456=0:=zO;have e4:n / 6277101735386680763835789423207666416102355444464034512896=0:=zO;rw [e1,e2,e3,e4];decide
@[simp] theorem wOf (n:Int) (h:i64 n) (K:iQ):cu prog G0 162 #[.int .i64 n] K↔K (wd n):=aP G0W ae (SQ n h)
theorem ZS (x:Int) (h0:0<=x) (h1:x<18446744073709551616):jE .xor .u64 IntKind.u64.max x=18446744073709551615 - x:=by
 have e:BitVec.ofInt 64 IntKind.u64.max=BitVec.allOnes 64:=zD;unfold jE;show IntKind.u64.wrap ((BitVec.ofInt 64 IntKind.u64.max ^^^ BitVec.ofInt 64 x:BitVec 64).toNat:Int)=_;rw [OO,e,BitVec.allOnes_xor,BitVec.toNat_not]
 have:(BitVec.ofInt 64 x).toNat=x.toNat:=by
  rw [nO];congr 1;exact cP h0 h1
 rw [this];omega
theorem an0 (z:Int) (k:Nat):18446744073709551615 - wi z k=wi (-z - 1) k:=by
 unfold wi;generalize hM:(2:Int)^(64*k)=M;have hp:0<M:=by rw [<-hM,YX];exact px _
 have e:(-z - 1) / M=-(z / M) - 1:=by
  have h1:=fy z M;have h2:=cy z (b:=M) zO;have h3:=cE z hp;have:-z - 1=(M - 1 - z%M)+M*(-(z / M) - 1):=by rw [lI,qj];omega
  rw [this,iD _ _ zO,fR zO zO];omega
 rw [e];omega
theorem ZN (z:Int):Ret prog G0 199 #[wd z] (wd (-z - 1)):=by
 refine ck G0F func199 rfl call199 zS zS (by simp [ntmps199]) ?_;intro C hC bQ hY
 repeat' first|refine cM ?_|refine gwW ?_|refine gwC ?_ ?_<;>intro hb
 refine ⟨.inr trivial,?_⟩;have e:(if IntKind.u64.signed=true then (-1:Int) else IntKind.u64.max)=IntKind.u64.max:=rfl;have X:=λk=>ZS (wi z k) (eC z k) (fi z k);simp [results199,e,X,an0]
@[simp] theorem ax6 (z:Int) (K:iQ):cu prog G0 199 #[Value.agg #[.int .u64 (wi (z) 0),.int .u64 (wi (z) 1),.int .u64 (wi (z) 2),.int .u64 (wi (z) 3)]] K↔K (wd (-z - 1)):=aP G0W ae (ZN z)
theorem ZQ (a b:Int):Ret prog G0 179 #[wd a,wd b] (.tuple #[wd (a - b),.bool (ng a != ng b&&ng (a - b) != ng a)]):=by
 refine ck G0F func179 rfl call179 zS zS (by simp [ntmps179]) ?_;intro C hC bQ hY;have e:a+(-b - 1)+1=a - b:=zO;cases hq:(ng a != ng b)
 all_goals
  repeat' first|refine cM ?_|(refine g6 ?_;intro Q hQ _;simp [hC,hY,hq,e];refine cQ hQ ?_)|refine gwC ?_ ?_<;>intro hb
  exact eR (k3 results179 hq e)
@[simp] theorem asM (a b:Int) (K:iQ):cu prog G0 179 #[Value.agg #[.int .u64 (wi (a) 0),.int .u64 (wi (a) 1),.int .u64 (wi (a) 2),.int .u64 (wi (a) 3)],Value.agg #[.int .u64 (wi (b) 0),.int .u64 (wi (b) 1),.int .u64 (wi (b) 2),.int .u64 (wi (b) 3)]] K↔K (.tuple #[wd (a - b),.bool (ng a != ng b&&ng (a - b) != ng a)]):=aP G0W ae (ZQ a b)
theorem OH (z:Int):Ret prog G0 164 #[wd z] (.tuple #[.int .i64 (if i64 (sz z) then sz z else 0),.bool (decide (i64 (sz z)))]):=by
 refine ck G0F func164 rfl call164 zS zS (by simp [ntmps164]) ?_;intro C hC bQ hY;have h:=Wp (wi z 0)
 repeat' first|refine cM ?_|(refine g6 ?_;intro Q hQ _;simp [hC,hY,h];refine cQ hQ ?_)|refine gwC ?_ ?_<;>intro hb
 all_goals
  refine ⟨.inr trivial,?_⟩
  try rw [wne] at hb
  try rw [weq] at hb
  simp at hb;rw [eq_comm,ahd] at hb;simp [results164,hb]
 exact ab6 z hb
@[simp] theorem ax3 (z:Int) (K:iQ):cu prog G0 164 #[Value.agg #[.int .u64 (wi (z) 0),.int .u64 (wi (z) 1),.int .u64 (wi (z) 2),.int .u64 (wi (z) 3)]] K↔K (.tuple #[.int .i64 (if i64 (sz z) then sz z else 0),.bool (decide (i64 (sz z)))]):=aP G0W ae (OH z)

theorem acC:ng 0=false:=zD
@[simp] theorem auU (a:Int) (K:iQ):cu prog G0 179 #[.agg #[.int .u64 0,.int .u64 0,.int .u64 0,.int .u64 0],Value.agg #[.int .u64 (wi (a) 0),.int .u64 (wi (a) 1),.int .u64 (wi (a) 2),.int .u64 (wi (a) 3)]] K↔K (.tuple #[wd (-a),.bool (ng a&&ng (-a))]):=by
 have:=asM 0 a K
 have e:((false != ng a)&&ng (0 - a) != false)=(ng a&&ng (-a)):=by
  rw [Int.zero_sub];cases ng a<;>cases ng (-a)<;>rfl
 rw [acC,e,Int.zero_sub] at this;exact cZ
theorem ZM (a:Int):Ret prog G0 183 #[wd a] (.tuple #[wd (-a),.bool (ng a&&ng (-a))]):=by
 refine ck G0F func183 rfl call183 zS zS (by simp [ntmps183]) ?_;intro C hC bQ hY;refine fO ?_;exact eR results183
@[simp] theorem ax5 (a:Int) (K:iQ):cu prog G0 183 #[Value.agg #[.int .u64 (wi (a) 0),.int .u64 (wi (a) 1),.int .u64 (wi (a) 2),.int .u64 (wi (a) 3)]] K↔K (.tuple #[wd (-a),.bool (ng a&&ng (-a))]):=aP G0W ae (ZM a)

theorem Yj (x:Int):Ret prog G0 207 #[.int .i64 x] (.bool false):=by
 refine ck G0F func207 rfl call207 rfl zS (by simp [ntmps207]) ?_;intro C hC bQ hY;refine fO ?_;exact eR results207
@[simp] theorem axo (x:Int) (K:iQ):cu prog G0 207 #[.int .i64 x] K↔K (.bool false):=aP G0W ae (Yj x)
theorem Yk (x:Int):Ret prog G0 208 #[.int .u64 x] (.bool false):=by
 refine ck G0F func208 rfl call208 rfl zS (by simp [ntmps208]) ?_;intro C hC bQ hY;refine fO ?_;exact eR results208
@[simp] theorem axp (x:Int) (K:iQ):cu prog G0 208 #[.int .u64 x] K↔K (.bool false):=aP G0W ae (Yk x)
theorem WC (x y:Int):Ret prog G0 196 #[.int .i64 x,.int .i64 y] (.int .i64 (gG x y)):=by
 refine ck G0F func196 rfl call196 rfl zS (by simp [ntmps196]) ?_;intro C hC bQ hY;by_cases h1:x<y
 ·(repeat' (first|refine cM ?_|(refine g6 ?_;intro Q hQ _;simp [hC,hY,h1];refine cQ hQ ?_)|refine gwC ?_ ?_<;>intro hb))
  all_goals
   exact eR (k3 results196 @gG.eq_1 h1)
 ·by_cases h2:y<x
  ·have h3:¬x=y:=zO
   (repeat' (first|refine cM ?_|(refine g6 ?_;intro Q hQ _;simp [hC,hY,h1,h2];refine cQ hQ ?_)|refine gwC ?_ ?_<;>intro hb))
   all_goals
    exact eR (k4 results196 @gG.eq_1 h1 h3)
  ·have h3:x=y:=zO;subst h3
   (repeat' (first|refine cM ?_|(refine g6 ?_;intro Q hQ _;simp [hC,hY,h1];refine cQ hQ ?_)|refine gwC ?_ ?_<;>intro hb))
   all_goals
    exact eR (k2 results196 @gG.eq_1)
@[simp] theorem au8 (x y:Int) (K:iQ):cu prog G0 196 #[.int .i64 x,.int .i64 y] K↔K (.int .i64 (gG x y)):=aP G0W ae (WC x y)
theorem WD (x y:Int):Ret prog G0 197 #[.int .u64 x,.int .u64 y] (.int .i64 (gG x y)):=by
 refine ck G0F func197 rfl call197 rfl zS (by simp [ntmps197]) ?_;intro C hC bQ hY;by_cases h1:x<y
 ·(repeat' (first|refine cM ?_|(refine g6 ?_;intro Q hQ _;simp [hC,hY,h1];refine cQ hQ ?_)|refine gwC ?_ ?_<;>intro hb))
  all_goals
   exact eR (k3 results197 @gG.eq_1 h1)
 ·by_cases h2:y<x
  ·have h3:¬x=y:=zO
   (repeat' (first|refine cM ?_|(refine g6 ?_;intro Q hQ _;simp [hC,hY,h1,h2];refine cQ hQ ?_)|refine gwC ?_ ?_<;>intro hb))
   all_goals
    exact eR (k4 results197 @gG.eq_1 h1 h3)
  ·have h3:x=y:=zO;subst h3
   (repeat' (first|refine cM ?_|(refine g6 ?_;intro Q hQ _;simp [hC,hY,h1];refine cQ hQ ?_)|refine gwC ?_ ?_<;>intro hb))
   all_goals
    exact eR (k2 results197 @gG.eq_1)
@[simp] theorem au9 (x y:Int) (K:iQ):cu prog G0 197 #[.int .u64 x,.int .u64 y] K↔K (.int .i64 (gG x y)):=aP G0W ae (WD x y)
theorem wC {p:Prop} (h:p:=by first|omega|(simp;omega)):p:=h
theorem rL {p:Prop} (h:p:=by unfold gG;split<;>(try split)<;>omega):p:=h
theorem DJ {p:Prop} (h:p:=by
 have:=eC z 3;have:=fi z 3;rw [dz];unfold ng;simp only [fe];split<;>split<;>omega):p:=h
theorem r6 {p:Prop} (h:p:=by
 subst hk;simp only [mC];exact aba wC wC):p:=h
theorem FZ {p:Prop} (h:p:=by
 refine dv _ 300 hC G0F (m0:=[]) bQ zO ?_ ?_ ?_
 ·simp [aN,cp,aL,aR,dom,mC]
 ·simp [aF,aL,aR,wb]
 ·simp):p:=h

def mC (a b:Int) (j:Nat):Int:=if j=0 then gG (Int.bmod (wi a 3) 18446744073709551616) (Int.bmod (wi b 3) 18446744073709551616) else gG (wi a (3 - j)) (wi b (3 - j))
def LS (a b:Int) (j:Nat):GS :=
 ⟨tsL [(2,.pointer (some ⟨200,0,none⟩)),(3,.pointer (some ⟨208,0,none⟩)),(5,.int .i64 (mC a b j)),(6,.int .i64 (2 - j))],hpL G0 [(200,wb a),(208,wb b)],300,0⟩
theorem Pn {x y:Int}:gG x y=0↔x=y:=rL
theorem bm3 (z:Int):Int.bmod (wi z 3) 18446744073709551616=wi z 3 - (if ng z then 18446744073709551616 else 0):=by
 exact DJ
theorem afk (z:Int):∃ r,sz z=Int.bmod (wi z 3) 18446744073709551616*6277101735386680763835789423207666416102355444464034512896+r/\r=wi z 0+18446744073709551616*wi z 1+340282366920938463463374607431768211456*wi z 2/\0<=r/\r<6277101735386680763835789423207666416102355444464034512896:=by
 refine ⟨_,?_,rfl,?_,?_⟩
 ·rw [Zy,bm3];split<;>omega
 ·have:=eC z 0;have:=eC z 1;have:=eC z 2;omega
 ·have:=fi z 0;have:=fi z 1;have:=fi z 2;omega
theorem aba {x y u v:Int} (h1:x<y↔u<v) (h2:x=y↔u=v):gG x y=gG u v:=by
 unfold gG;simp only [h1,h2]
theorem abb (a b:Int) (k:Nat) (hk:k=(if mC a b 0=0 then if mC a b 1=0 then if mC a b 2=0 then 3 else 2 else 1 else 0)):mC a b k=gG (sz a) (sz b):=by
 obtain ⟨r,ea,er,r0,r1⟩:=afk a;obtain ⟨q,eb,eq,q0,q1⟩:=afk b;have z0:mC a b 0=0↔Int.bmod (wi a 3) 18446744073709551616=Int.bmod (wi b 3) 18446744073709551616:=by simp only [mC,aU,Pn]
 have z1:mC a b 1=0↔wi a 2=wi b 2:=by simp [mC,Pn]
 have z2:mC a b 2=0↔wi a 1=wi b 1:=by simp [mC,Pn]
 simp only [z0,z1,z2] at hk;have:=eC a 0;have:=fi a 0;have:=eC a 1;have:=fi a 1;have:=eC a 2;have:=fi a 2;have:=eC b 0;have:=fi b 0;have:=eC b 1;have:=fi b 1;have:=eC b 2;have:=fi b 2;clear z0 z1 z2;by_cases h0:Int.bmod (wi a 3) 18446744073709551616=Int.bmod (wi b 3) 18446744073709551616
 ·rw [ai h0] at hk;rw [h0] at ea;by_cases h1:wi a 2=wi b 2
  ·rw [ai h1] at hk;by_cases h2:wi a 1=wi b 1
   ·rw [ai h2] at hk;exact r6
   ·rw [ab h2] at hk;exact r6
  ·rw [ab h1] at hk;exact r6
 ·rw [ab h0] at hk;exact r6
theorem ZI (a b:Int):Ret prog G0 178 #[wd a,wd b] (.int .i64 (gG (sz a) (sz b))):=by
 refine ck G0F func178 rfl call178 zS zS (by simp [ntmps178]) ?_;intro C hC bQ hY;refine fO ?_
 have e3:∀ z,Int.bmod (wi z 3) 18446744073709551616=wi z 3 - (if ng z then 18446744073709551616 else 0):=λz=>by
  exact DJ
 refine jQ (if mC a b 0=0 then if mC a b 1=0 then if mC a b 2=0 then 3 else 2 else 1 else 0) (LS a b) ?_ ?_ ?_
 ·exact FZ
 ·intro i hi;have:(i=0/\mC a b 0=0)\/(i=1/\mC a b 1=0)\/(i=2/\mC a b 2=0):=by (repeat' split at hi)<;>omega
  rcases this with ⟨rfl,h⟩|⟨rfl,h⟩|⟨rfl,h⟩<;>unfold LS
  all_goals
   refine dy (k2 h @wb.eq_1) ?_
  all_goals
   exact FZ
 ·have f1:=Zy a;have f2:=Zy b;have g1:=e3 a;have g2:=e3 b;have:=eC a 0;have:=fi a 0;have:=eC a 1;have:=fi a 1;have:=eC a 2;have:=fi a 2;have:=eC a 3;have:=fi a 3;have:=eC b 0;have:=fi b 0;have:=eC b 1;have:=fi b 1;have:=eC b 2;have:=fi b 2;have:=eC b 3;have:=fi b 3
  have key:∀ k,k=(if mC a b 0=0 then if mC a b 1=0 then if mC a b 2=0 then 3 else 2 else 1 else 0)->mC a b k=gG (sz a) (sz b):=λk hk=>by
   exact abb a b k hk
  have hk:=key _ rfl;generalize hN:(if mC a b 0=0 then if mC a b 1=0 then if mC a b 2=0 then 3 else 2 else 1 else 0)=N at *
  have hc:mC a b N≠0\/N=3:=by (repeat' split at hN)<;>subst hN<;>first|(left;assumption)|(right;rfl)
  by_cases hz:mC a b N=0
  ·have h3:N=3:=hc.resolve_left (λh=>h hz);subst h3;unfold LS;refine dy (k2 hz @wb.eq_1) ?_;refine ⟨.inr trivial,?_⟩;simp [results178,<-hk,hz]
  ·have hzb:(mC a b N==0)=false:=by simpa using hz
   unfold LS;refine dy (k2 hzb @wb.eq_1) ?_;exact eR (k2 results178 hk)
@[simp] theorem asL (a b:Int) (K:iQ):cu prog G0 178 #[Value.agg #[.int .u64 (wi (a) 0),.int .u64 (wi (a) 1),.int .u64 (wi (a) 2),.int .u64 (wi (a) 3)],Value.agg #[.int .u64 (wi (b) 0),.int .u64 (wi (b) 1),.int .u64 (wi (b) 2),.int .u64 (wi (b) 3)]] K↔K (.int .i64 (gG (sz a) (sz b))):=aP G0W ae (ZI a b)
@[simp] theorem auQ (a:Int) (K:iQ):cu prog G0 178 #[Value.agg #[.int .u64 (wi (a) 0),.int .u64 (wi (a) 1),.int .u64 (wi (a) 2),.int .u64 (wi (a) 3)],.agg #[.int .u64 0,.int .u64 0,.int .u64 0,.int .u64 0]] K↔K (.int .i64 (gG (sz a) 0)):=by
 have:=asL a 0 K;have e:sz 0=0:=zD;rw [e] at this;exact cZ
theorem Vl (a:Int):Ret prog G0 180 #[wd a] (.int .i64 (gG (sz a) 0)):=by
 refine ck G0F func180 rfl call180 zS zS (by simp [ntmps180]) ?_;intro C hC bQ hY;refine fO ?_;exact eR results180
@[simp] theorem auT (a:Int) (K:iQ):cu prog G0 180 #[Value.agg #[.int .u64 (wi (a) 0),.int .u64 (wi (a) 1),.int .u64 (wi (a) 2),.int .u64 (wi (a) 3)]] K↔K (.int .i64 (gG (sz a) 0)):=aP G0W ae (Vl a)
end Go.Gy
namespace Go.Gy
open Go Go.RowKit
theorem oL {p:Prop} (h:p:=by rw [<-cC];congr 1;omega):p:=h
abbrev fV := @Int.add_mul
abbrev au := @Nat.mul_zero
abbrev cF := @Int.mul_comm
abbrev qo := @Int.mul_left_comm
abbrev uB := @Int.mul_lt_mul_of_pos_right
theorem gI (i:Nat):(0:Int)<2^(64*i):=gC zD
theorem zh (i:Nat):(2:Int)^(64*(i+1))=2^(64*i)*18446744073709551616:=by
 rw [iy,cC];rfl
def gq (A B:Int) (i:Nat):Int:=(A%2^(64*i))*B
def mK (A B:Int) (i k:Nat):Int:=(gq A B i%2^(64*(i+k))+2^(64*i)*wi A i*(B%2^(64*k))) / 2^(64*(i+k))
def ta (A B:Int) (i k j:Nat):Int:=if i<=j/\j<i+k then wi (gq A B (i+1)) j else wi (gq A B i) j
theorem zp (A B:Int) (i:Nat):gq A B (i+1)=gq A B i+2^(64*i)*wi A i*B:=by
 unfold gq wi;rw [zh,ve A _ _ (gI i) zO,fV]
theorem Q2 (A B:Int) (i:Nat):mK A B i 0=0:=by
 unfold mK;have h1:=cE (gq A B i) (gI (i+0));have h2:=cy (gq A B i) (b:=2^(64*(i+0))) (by have:=gI (i+0);omega);simp only [au,Int.pow_zero,Int.emod_one,Int.mul_zero,Int.add_zero];exact fR h2 h1
theorem IQ (A B:Int) (i k:Nat):0<=mK A B i k/\mK A B i k<18446744073709551616:=by
 unfold mK;have hM:(2:Int)^(64*(i+k))=2^(64*i)*2^(64*k):=by rw [iy,cC]
 have p1:=gI i;have p2:=gI k;have p3:=gI (i+k);generalize hz:gq A B i=z;have h1:=cE z p3;have h2:=cy z (b:=2^(64*(i+k))) zO;have h3:=cE B p2;have h4:=cy B (b:=2^(64*k)) zO;have h5:=eC A i;have h6:=fi A i;have h7:0<=2^(64*i)*wi A i*(B%2^(64*k)):=cz (cz zO h5) h4
 have h8:2^(64*i)*wi A i*(B%2^(64*k))<=2^(64*i)*18446744073709551615*2^(64*k) :=
  cU (iG zO zO) zO h4 (cz zO zO)
 have h9:(2:Int)^(64*i)*18446744073709551615*2^(64*k)=18446744073709551615*2^(64*(i+k)):=by
  rw [hM,cF (2^(64*i)) 18446744073709551615,ca]
 refine ⟨gQ zO zO,va p3 zO⟩
theorem Q1 (A B:Int) (i k:Nat):(wi (gq A B i) (i+k)+wi A i*wi B k+mK A B i k) / 18446744073709551616=mK A B i (k+1):=by
 have hM:(2:Int)^(64*(i+k))=2^(64*i)*2^(64*k):=by rw [iy,cC]
 have p2:=gI k;have p3:=gI (i+k);unfold mK;rw [(zO:i+(k+1)=(i+k)+1),zh,zh,ve _ _ _ p3 zO,ve B _ _ p2 zO];generalize hz:gq A B i=z;unfold wi;generalize hD:(2:Int)^(64*(i+k))=M at *
 have e:z%M+M*(z / M%18446744073709551616)+2^(64*i)*(A / 2^(64*i)%18446744073709551616)*(B%2^(64*k)+2^(64*k)*(B / 2^(64*k)%18446744073709551616)) =
   (z%M+2^(64*i)*(A / 2^(64*i)%18446744073709551616)*(B%2^(64*k)))+M*(z / M%18446744073709551616+A / 2^(64*i)%18446744073709551616*(B / 2^(64*k)%18446744073709551616)):=by
  rw [hM];generalize (2:Int)^(64*i)=P;generalize (2:Int)^(64*k)=Q;generalize A / P%18446744073709551616=a;generalize B / Q%18446744073709551616=b;generalize B%Q=c;generalize z%(P*Q)=u;generalize z / (P*Q)%18446744073709551616=v
  have:P*a*(c+Q*b)=P*a*c+P*Q*(a*b):=by
   rw [fh];congr 1;rw [ca P a,ca P Q];congr 1;rw [<-ca,<-ca,cF a Q]
  rw [this,fh];omega
 rw [e,<-j3 (dh p3),iD _ _ zO];congr 1;omega
theorem an1 (A B:Int) (i k:Nat):(wi (gq A B i) (i+k)+wi A i*wi B k+mK A B i k)%18446744073709551616=wi (gq A B (i+1)) (i+k):=by
 have hM:(2:Int)^(64*(i+k))=2^(64*i)*2^(64*k):=by rw [iy,cC]
 have p3:=gI (i+k);rw [zp];unfold mK;generalize hz:gq A B i=z;unfold wi;generalize hD:(2:Int)^(64*(i+k))=M at *
 have h1:=fy z M;have h2:=fy B (2^(64*k));have h3:=fy (B / 2^(64*k)) 18446744073709551616
 have e:z+2^(64*i)*(A / 2^(64*i)%18446744073709551616)*B=(z%M+2^(64*i)*(A / 2^(64*i)%18446744073709551616)*(B%2^(64*k))) +
   M*(z / M+A / 2^(64*i)%18446744073709551616*(B / 2^(64*k)%18446744073709551616)+18446744073709551616*(A / 2^(64*i)%18446744073709551616*(B / 2^(64*k) / 18446744073709551616))):=by
  have hB:B=B%2^(64*k)+2^(64*k)*(B / 2^(64*k)%18446744073709551616+18446744073709551616*(B / 2^(64*k) / 18446744073709551616)):=by rw [h3];omega
  generalize B / 2^(64*k)%18446744073709551616=b at *
  generalize B / 2^(64*k) / 18446744073709551616=h at *
  generalize B%2^(64*k)=c at *
  rw [hM];rw [hM] at h1;generalize (2:Int)^(64*i)=P at *
  generalize (2:Int)^(64*k)=Q at *
  generalize A / P%18446744073709551616=a;rw [hB]
  have:P*a*(c+Q*(b+18446744073709551616*h))=P*a*c+P*Q*(a*b)+P*Q*(18446744073709551616*(a*h)):=by
   rw [fh,fh Q,fh]
   have e1:P*a*(Q*b)=P*Q*(a*b):=by
    rw [ca P a,ca P Q];congr 1;rw [<-ca,<-ca,cF a Q]
   have e2:P*a*(Q*(18446744073709551616*h))=P*Q*(18446744073709551616*(a*h)):=by
    rw [ca P a,ca P Q];congr 1;rw [qo a Q];congr 1;rw [qo]
   rw [e1,e2];omega
  rw [this,fh,fh];omega
 rw [e,iD _ _ zO];omega
theorem ON (A B:Int) (i:Nat) (h0:0<=B) (h1:B<2^(64*4)):0<=gq A B i/\gq A B i<2^(64*(i+4)):=by
 have p1:=gI i;have h2:=cy A (b:=2^(64*i)) zO;have h3:=cE A p1;unfold gq;refine ⟨cz h2 h0,?_⟩;rw [iy,cC];generalize (2:Int)^(64*i)=P at *
 generalize (2:Int)^(64*4)=Q at *
 have h4:A%P*B<=A%P*Q:=iG zO h2;have h5:A%P*Q<P*Q:=uB h3 zO;omega
theorem Vk (A B:Int) (i:Nat) (h0:0<=B) (h1:B<2^(64*4)):mK A B i 4=wi (gq A B (i+1)) (i+4):=by
 have hb:=IQ A B i 4;have hz:=ON A B i h0 h1;unfold mK at *
 rw [cP hz.1 hz.2,cP h0 h1,<-zp] at *
 unfold wi;omega
theorem OM (A B:Int) (i j:Nat) (h0:0<=B) (h1:B<2^(64*4)) (hj:i+4<=j):wi (gq A B i) j=0:=by
 have hz:=ON A B i h0 h1;have e:(2:Int)^(64*j)=2^(64*(i+4))*2^(64*(j - (i+4))):=oL;have p:=gI (j - (i+4));unfold wi;rw [fR hz.1]
 ·rfl
 ·rw [e];have:(2:Int)^(64*(i+4))*1<=2^(64*(i+4))*2^(64*(j - (i+4))):=iG zO (by have:=gI (i+4);omega);omega
theorem Vj (A B:Int) (i j:Nat) (hj:j<i):wi (gq A B (i+1)) j=wi (gq A B i) j:=by
 rw [zp];unfold wi
 have e:(2:Int)^(64*i)=2^(64*j)*(18446744073709551616*2^(64*(i - j - 1))):=by
  rw [show (18446744073709551616:Int)=2^64 by rfl,<-cC,<-cC];congr 1;omega
 rw [e,ca,ca (2^(64*j)),ca 18446744073709551616,iD _ _ (by have:=gI j;omega)];omega
theorem Q3 (A B:Int) (i k:Nat):∀ j,upd (ta A B i k) (i+k) (wi (gq A B (i+1)) (i+k)) j=ta A B i (k+1) j:=λj=>by
 unfold upd ta;by_cases e:j=i+k
 ·subst e;simp
 ·rw [ab e];by_cases h:i<=j/\j<i+k
  ·rw [ai h,ai zO]
  ·rw [ab h,ab zO]
theorem Vi (A B:Int) (i:Nat) (h0:0<=B) (h1:B<2^(64*4)):∀ j,upd (ta A B i 4) (i+4) (mK A B i 4) j=wi (gq A B (i+1)) j:=λj=>by
 unfold upd ta;by_cases e:j=i+4
 ·subst e;rw [ai rfl,Vk A B i h0 h1]
 ·rw [ab e];by_cases h:i<=j/\j<i+4
  ·rw [ai h]
  ·rw [ab h];by_cases hj:j<i
   ·exact (Vj A B i j hj).symm
   ·rw [OM A B i j h0 h1 zO,OM A B (i+1) j h0 h1 zO]
@[simp] theorem an2 (A B:Int) (i k:Nat):ta A B i k (i+k)=wi (gq A B i) (i+k):=by unfold ta;rw [ab zO]

theorem an4 (x y d c:Int) (hx:0<=x/\x<18446744073709551616) (hy:0<=y/\y<18446744073709551616) (hd:0<=d/\d<18446744073709551616) (hc:0<=c/\c<18446744073709551616) :
  ((x*y%18446744073709551616+d)%18446744073709551616+c)%18446744073709551616=(d+x*y+c)%18446744073709551616 /\
  ((x*y / 18446744073709551616+(x*y%18446744073709551616+d) / 18446744073709551616)%18446744073709551616+((x*y%18446744073709551616+d)%18446744073709551616+c) / 18446744073709551616)%18446744073709551616=(d+x*y+c) / 18446744073709551616:=by
 have h1:0<=x*y:=cz hx.1 hy.1;have h2:x*y<=18446744073709551615*18446744073709551615:=cU zO zO hy.1 zO;generalize x*y=p at *
 omega
end Go.Gy
namespace Go.Gy
open Go Go.RowKit Go.Proofs Go.Proofs.Tryz
theorem fY {p:Prop} (h:p:=by simp [dom]):p:=h
theorem fE {p:Prop} (h:p:=by rw [bm zO zO];rfl):p:=h
theorem rN {p:Prop} (h:p:=by simpa using Lc):p:=h
theorem Ey {p:Prop} (h:p:=by
 unfold jE;show IntKind.u64.wrap ((BitVec.ofInt 64 x ||| BitVec.ofInt 64 y:BitVec 64).toNat:Int)=_;rw [OO]):p:=h
theorem Fy {p:Prop} (h:p:=by
 refine dv _ 400 hC G0F (m0:=[]) bQ zO ?_ ?_ ?_
 ·simp [dom,ha]
 ·simp [vh,Jc,e1]
 ·simp):p:=h
theorem El {p:Prop} (h:p:=by
 refine dv _ 400 hC G0F (m0:=[]) bQ zO ?_ ?_ ?_
 ·simp [dom,hq]
 ·simp [vh,Jc,e1]
 ·simp):p:=h
@[simp] theorem ao5 (D:gA) (n:Nat) (k:IntKind) (f:aS):aN D (.agg (fa n k f))↔True:=by
 refine ⟨λ_=>trivial,λ_ x hx=>?_⟩;obtain ⟨m,rfl⟩:=yX hx
 trivial
theorem KN (z:Int) (h0:0<=z) (h1:z<18446744073709551616):jE .and .u64 z 4294967295=z%4294967296:=by
 rw [<-and_low32 z h0 h1];rfl
theorem Uf (x y:Int) (PX:0<=x) (hx:x<18446744073709551616) (XK:0<=y) (hy:y<18446744073709551616):Ret prog G0 184 #[.int .u64 x,.int .u64 y] (.tuple #[.int .u64 (x*y / 18446744073709551616),.int .u64 (x*y%18446744073709551616)]):=by
 refine ck G0F func184 rfl call184 zS zS (by simp [ntmps184]) ?_;intro C hC bQ hY;have f32:∀ z:Int,z.fdiv 4294967296=z / 4294967296:=λz=>iA z zO;have a1:=KN x PX hx;have a2:=KN y XK hy;have a3:∀ z:Int,jE .and .u64 (z%18446744073709551616) 4294967295=z%18446744073709551616%4294967296:=λz=>KN _ zO zO;refine dy (k4 f32 a1 a2 a3) ?_;refine ⟨.inr trivial,?_⟩;have:=mul64_arith x y PX hx XK hy;simpa [results184] using this
@[simp] theorem atW (x y:Int) (PX:0<=x) (hx:x<18446744073709551616) (XK:0<=y) (hy:y<18446744073709551616) (K:iQ):cu prog G0 184 #[.int .u64 x,.int .u64 y] K↔K (.tuple #[.int .u64 (x*y / 18446744073709551616),.int .u64 (x*y%18446744073709551616)]):=aP G0W ae (Uf x y PX hx XK hy)
theorem ZK (z y:Int) (k:Nat) (h:z%115792089237316195423570985008687907853269984665640564039457584007913129639936=y%115792089237316195423570985008687907853269984665640564039457584007913129639936) (hk:k<4):wi z k=wi y k:=by
 have:k=0\/k=1\/k=2\/k=3:=zO;rcases this with rfl|rfl|rfl|rfl<;>simp only [wi]<;>omega
theorem afv (z:Int) (h:ng z=true) (k:Nat) (hk:k<4):wi (-z) k=wi (um z) k:=ZK _ _ _ (by
 rw [Af] at h;simp at h;have:=QR z;unfold um;rw [ai h];omega) hk
theorem afu (z:Int) (h:ng z=false) (k:Nat) (hk:k<4):wi z k=wi (um z) k:=ZK _ _ _ (by
 rw [Af] at h;simp at h;have:=QR z;unfold um;rw [ab zO];omega) hk
theorem anZ (A B:Int) (i k:Nat):0<=wi A i*wi B k/\0<=wi A i*wi B k%18446744073709551616/\0<=(wi A i*wi B k+wi (gq A B i) (i+k))%18446744073709551616:=by
 have h1:=eC A i;have h2:=eC B k;exact ⟨cz h1 h2,cy _ zO,cy _ zO⟩
theorem anY (A B:Int) (i k:Nat):(wi A i*wi B k+wi (gq A B i) (i+k)+mK A B i k)%18446744073709551616=wi (gq A B (i+1)) (i+k):=by
 rw [<-an1 A B i k];congr 1;omega
theorem anV (A B:Int) (i k:Nat):(wi A i*wi B k / 18446744073709551616+(wi A i*wi B k%18446744073709551616+wi (gq A B i) (i+k)) / 18446744073709551616+((wi A i*wi B k+wi (gq A B i) (i+k))%18446744073709551616+mK A B i k) / 18446744073709551616)%18446744073709551616=mK A B i (k+1):=by
 have h:=(an4 (wi A i) (wi B k) (wi (gq A B i) (i+k)) (mK A B i k) ⟨eC _ _,fi _ _⟩ ⟨eC _ _,fi _ _⟩ ⟨eC _ _,fi _ _⟩ (IQ A B i k)).2;rw [<-Q1,<-h];simp
def ahv (q:Nat) (mi:Bool) (A B:Int) (i:Nat):GS :=
 ⟨tsL [(2,.pointer (some ⟨200,0,none⟩)),(3,.pointer (some ⟨208,0,none⟩)),(4,.pointer (some ⟨216,0,none⟩)),(6,.bool mi),(7,.pointer (some ⟨q,0,none⟩)),(40,.agg (fa 4 .u64 (wi A))),(41,.int .i64 i)],
 hpL G0 [(200,⟨fa 4 .u64 (wi A),.ty 140⟩),(208,⟨fa 4 .u64 (wi B),.ty 140⟩),(216,⟨fa 4 .u64 λ_=>0,.ty 140⟩),(q,⟨fa 8 .u64 (wi (gq A B i)),.ty 160⟩)],600,0⟩
def Yh (q:Nat) (mi:Bool) (A B:Int) (i k:Nat):GS :=
 ⟨tsL [(2,.pointer (some ⟨200,0,none⟩)),(3,.pointer (some ⟨208,0,none⟩)),(4,.pointer (some ⟨216,0,none⟩)),(6,.bool mi),(7,.pointer (some ⟨q,0,none⟩)),(40,.agg (fa 4 .u64 (wi A))),(41,.int .i64 i),
   (8,.int .i64 i),(9,.int .u64 (wi A i)),(10,.int .u64 (mK A B i k)),(45,.agg (fa 4 .u64 (wi B))),(46,.int .i64 k)],
 hpL G0 [(200,⟨fa 4 .u64 (wi A),.ty 140⟩),(208,⟨fa 4 .u64 (wi B),.ty 140⟩),(216,⟨fa 4 .u64 λ_=>0,.ty 140⟩),(q,⟨fa 8 .u64 (ta A B i k),.ty 160⟩)],600,0⟩
theorem Lw {x y:Int} (PX:0<=x) (hx:x<18446744073709551616) (XK:0<=y) (hy:y<18446744073709551616):(jE .or .u64 x y=0↔x=0/\y=0)/\0<=jE .or .u64 x y/\jE .or .u64 x y<18446744073709551616:=by
 have e:jE .or .u64 x y=((BitVec.ofInt 64 x ||| BitVec.ofInt 64 y:BitVec 64).toNat:Int)%18446744073709551616:=by
  exact Ey
 have tn:(BitVec.ofInt 64 x).toNat=x.toNat:=by
  rw [nO];congr 1;exact cP PX hx
 have hy':(BitVec.ofInt 64 y).toNat=y.toNat:=by
  rw [nO];congr 1;exact cP XK hy
 have hb:=(BitVec.ofInt 64 x ||| BitVec.ofInt 64 y).isLt;rw [e];refine ⟨?_,cy _ zO,cE _ zO⟩;rw [cP zO zO,BitVec.toNat_or,tn,hy'];constructor
 ·intro h;have h1:x.toNat ||| y.toNat=0:=zO;have:=Nat.or_eq_zero_iff.1 h1;omega
 ·rintro ⟨rfl,rfl⟩;rfl
theorem AD (D:Int) (j:Nat) (h:4<=j:=by omega):wi D j=wi (D / 115792089237316195423570985008687907853269984665640564039457584007913129639936) (j - 4):=by
 unfold wi;have e:64*j=64*4+64*(j - 4):=zO;rw [e,cC,<-j3 (dh (gI 4))]
 rfl
def ovD (D:Int):Bool:=decide (115792089237316195423570985008687907853269984665640564039457584007913129639936<=D)
def orW (D:Int):Int:=jE .or .u64 (jE .or .u64 (jE .or .u64 (wi D 4) (wi D 5)) (wi D 6)) (wi D 7)
theorem am6 (D:Int) (h0:0<=D) (h1:D<115792089237316195423570985008687907853269984665640564039457584007913129639936*115792089237316195423570985008687907853269984665640564039457584007913129639936) :
  (!orW D==0)=ovD D:=by
 unfold orW;have o1:=Lw (eC D 4) (fi D 4) (eC D 5) (fi D 5);have o2:=Lw o1.2.1 o1.2.2 (eC D 6) (fi D 6);have o3:=Lw o2.2.1 o2.2.2 (eC D 7) (fi D 7);rw [lE];simp only [nP,beq_eq_false_iff_ne,ne_eq,ovD,fe];rw [o3.1,o2.1,o1.1,AD D 4,AD D 5,AD D 6,AD D 7];have hE:0<=D / 115792089237316195423570985008687907853269984665640564039457584007913129639936/\D / 115792089237316195423570985008687907853269984665640564039457584007913129639936<115792089237316195423570985008687907853269984665640564039457584007913129639936:=⟨zO,zO⟩
 have hD:115792089237316195423570985008687907853269984665640564039457584007913129639936<=D↔D / 115792089237316195423570985008687907853269984665640564039457584007913129639936≠0:=zO;rw [hD];generalize D / 115792089237316195423570985008687907853269984665640564039457584007913129639936=E at *
 simp only [wi];omega
theorem Rc {P:Program} {C:Ctx} {n:Nat} {d:List Deferred} {ro:Option Nat} {x y:Code} {s:GS} {K:kV} (S1:GS) (h1:GW P C n d ro x s (dU (λs'=>Weak C s' S1) (λ_ _=>False))) (h2:GW P C n d ro y S1 K):GW P C n d ro (.seq x y) s K :=
 te (iu h1 λe s' h=>by
  cases e with
  | normal=>exact GM h h2
  | _=>exact h.elim)
def acB (mi:Bool) (A B:Int):GS :=
 ⟨tsL [(2,.pointer (some ⟨200,0,none⟩)),(3,.pointer (some ⟨208,0,none⟩)),(4,.pointer (some ⟨216,0,none⟩)),(6,.bool mi)],
 hpL G0 [(200,⟨fa 4 .u64 (wi A),.ty 140⟩),(208,⟨fa 4 .u64 (wi B),.ty 140⟩),(216,⟨fa 4 .u64 λ_=>0,.ty 140⟩)],400,0⟩
theorem OJ (a b:Int):Ret prog G0 161 #[wd a,wd b] (.tuple #[wd (sz a*sz b),.bool (Ae a b)]):=by
 refine ck G0F func161 rfl call161 zS zS (by simp [ntmps161]) ?_;intro C hC bQ hY;have hA:=afp a;have hB:=afp b;have hB0:0<=um b:=hB.1;have hB1:um b<2^(64*4):=by have:=hB.2;omega
 obtain ⟨D,hD⟩:∃ D,um a*um b=D:=⟨_,rfl⟩
 have eD:gq (um a) (um b) 4=D:=by rw [<-hD];unfold gq;rw [cP zO zO]
 have Z9:0<=D/\D<=57896044618658097711785492504343953926634992332820282019728792003956564819968*57896044618658097711785492504343953926634992332820282019728792003956564819968:=by
  rw [<-hD];exact ⟨cz hA.1 hB.1,cU hA.2 hB.2 hB.1 zO⟩
 have Vz:=am6 D Z9.1 (by have:=Z9.2;omega);have BU:=UD a b;have pV:=Qr a b;rw [hD] at BU pV;apply gwS
 (refine g6 ?_;intro Q hQ hP;simp [hC,hY];refine cQ hQ ?_;clear hQ hP Q)
 simp only [wN,wM,Nat.reduceAdd,Nat.reduceMul];apply gwS
 (refine g6 ?_;intro Q hQ hP;simp [hC,hY];refine cQ hQ ?_;clear hQ hP Q)
 simp only [wN,wM,Nat.reduceAdd,Nat.reduceMul];refine Rc (acB (ng a != ng b) (um a) b) ?_ (Rc (acB (ng a != ng b) (um a) (um b)) ?_ ?_)
 ·cases ha:ng a
  all_goals
   refine dy ha ?_
  ·have e1:=afu a ha;exact Fy
  ·have e1:=afv a ha;exact Fy
 ·cases hq:ng b
  all_goals
   unfold acB;refine dy (k2 hq @Jc) ?_
  ·have e1:=afu b hq;exact El
  ·have e1:=afv b hq;exact El
 ·unfold acB;refine fO ?_;refine jQ 4 (ahv 400 (ng a != ng b) (um a) (um b)) ?_ ?_ ?_
  ·refine dv _ 600 hC G0F (m0:=[]) bQ zO ?_ ?_ ?_
   ·exact fY
   ·simp [vh,TC,gq,Int.emod_one,AE]
   ·simp
  ·intro i hi;have cv:(i:Int)<4:=zO;have hz:(0:Int)<=i:=zO;have hs:Int.bmod ((i:Int)+1) 18446744073709551616=((i+1:Nat):Int):=fE;unfold ahv;refine dy (k5 hi cv hz hs @lr) ?_;refine jQ 4 (Yh 400 (ng a != ng b) (um a) (um b) i) ?_ ?_ ?_
   ·refine dv _ 600 hC G0F (m0:=[]) bQ zO ?_ ?_ ?_
    ·simp [dom,Q2]
    ·have e:fa 8 .u64 (ta (um a) (um b) i 0)=fa 8 .u64 (wi (gq (um a) (um b) i)):=zJ λj _=>by unfold ta;rw [ab zO]
     simp [e,vh]
    ·simp
   ·intro k hk;have g8:(k:Int)<4:=zO;have hkz:(0:Int)<=k:=zO;have pV:Int.bmod ((k:Int)+1) 18446744073709551616=((k+1:Nat):Int):=fE;have hik:Int.bmod ((i:Int)+k) 18446744073709551616=((i+k:Nat):Int):=fE;have arf:i+k<8:=zO;have arh:(i:Int)+k<8:=zO;have ari:(0:Int)<=(i:Int)+k:=zO;have arj:((i:Int)+k).toNat=i+k:=zO;have ark:(i:Int)+k<=7:=zO;have arl:i+k<=7:=zO;have hn:=anZ (um a) (um b) i k;have hc:=IQ (um a) (um b) i k;unfold Yh;refine dy (k22 hi cv hz hk g8 hkz hik arf arh ari arj ark arl pV @lr @AZ @eC @fi hn.1 hn.2.1 hn.2.2 hc.1) ?_;refine dv _ 600 hC G0F (m0:=[]) bQ zO ?_ ?_ ?_
    ·simp [dom,pV,anV]
    ·have e:fa 8 .u64 (upd (ta (um a) (um b) i k) (i+k) (wi (gq (um a) (um b) (i+1)) (i+k)))=fa 8 .u64 (ta (um a) (um b) i (k+1)):=zJ λj _=>Q3 (um a) (um b) i k j;simp [vh,anY,e]
    ·simp
   ·have hi8:Int.bmod ((i:Int)+4) 18446744073709551616=(i:Int)+4:=bm zO zO;have hi9:(0:Int)<=(i:Int)+4:=zO;have aq7:((i:Int)+4).toNat=i+4:=zO;have aq8:(i:Int)+4<8:=zO;have aq9:(i:Int)<=3:=zO;have arb:i<=3:=zO;have ara:i+4<8:=zO;unfold Yh;refine dy (k12 hi cv hz hs hi8 hi9 aq7 aq8 aq9 ara arb @AZ) ?_;refine dv _ 600 hC G0F (m0:=[]) bQ zO ?_ ?_ ?_
    ·simp [dom,hs]
    ·have e:fa 8 .u64 (upd (ta (um a) (um b) i 4) (i+4) (mK (um a) (um b) i 4))=fa 8 .u64 (wi (gq (um a) (um b) (i+1))):=zJ λj _=>Vi (um a) (um b) i hB0 hB1 j;simp [vh,e]
    ·simp
  ·unfold ahv;rw [eD];cases hn:ng a==ng b
   ·have PT:(ng a != ng b)=true:=by simp [bne,hn]
    rw [PT];by_cases hx:orW D=0
    ·have Lc:ovD D=false:=by rw [<-Vz];simp [hx]
     unfold orW at hx;by_cases hzz:sz D=0
     ·have hw:=adT D hzz;refine dy (k4 @TC @Jc hx hw) ?_;refine ⟨.inr trivial,?_⟩;rw [ovD] at Lc;simp [results161,pV hn,Ae,hx];have:=II D Z9.1 rN;simp at Lc;omega
     ·have hw:=OL D hzz;refine dy (k4 @TC @Jc hx hw) ?_;refine ⟨.inr trivial,?_⟩;rw [ovD] at Lc;simp [results161,pV hn,Ae,hx];rw [lE];simp [Af];have h3:=II D Z9.1 rN;have h4:=adB D Z9.1 rN;simp at Lc;omega
    ·have Lc:ovD D=true:=by rw [<-Vz];simp [hx]
     unfold orW at hx;have VD:(jE .or .u64 (jE .or .u64 (jE .or .u64 (wi D 4) (wi D 5)) (wi D 6)) (wi D 7)==0)=false:=cG;have XJ:(jE .or .u64 (jE .or .u64 (jE .or .u64 (wi D 4) (wi D 5)) (wi D 6)) (wi D 7) != 0)=true:=cG;refine dy (k5 @TC @Jc hx VD XJ) ?_;refine ⟨.inr trivial,?_⟩;rw [ovD] at Lc;simp [results161,pV hn,Ae,hx];simp at Lc;omega
   ·have PT:(ng a != ng b)=false:=by simp [bne,hn]
    rw [PT];by_cases hx:orW D=0
    ·have Lc:ovD D=false:=by rw [<-Vz];simp [hx]
     unfold orW at hx;refine dy (k3 @TC @Jc hx) ?_;refine ⟨.inr trivial,?_⟩;rw [ovD] at Lc;simp [results161,BU hn,Ae,hx];rw [lE];simp [Af];have h3:=II D Z9.1 rN;simp at Lc;omega
    ·have Lc:ovD D=true:=by rw [<-Vz];simp [hx]
     unfold orW at hx;have VD:(jE .or .u64 (jE .or .u64 (jE .or .u64 (wi D 4) (wi D 5)) (wi D 6)) (wi D 7)==0)=false:=cG;have XJ:(jE .or .u64 (jE .or .u64 (jE .or .u64 (wi D 4) (wi D 5)) (wi D 6)) (wi D 7) != 0)=true:=cG;refine dy (k5 @TC @Jc hx VD XJ) ?_;refine ⟨.inr trivial,?_⟩;rw [ovD] at Lc;simp [results161,BU hn,Ae,hx];simp at Lc;omega
@[simp] theorem ax4 (a b:Int) (K:iQ):cu prog G0 161 #[Value.agg #[.int .u64 (wi (a) 0),.int .u64 (wi (a) 1),.int .u64 (wi (a) 2),.int .u64 (wi (a) 3)],Value.agg #[.int .u64 (wi (b) 0),.int .u64 (wi (b) 1),.int .u64 (wi (b) 2),.int .u64 (wi (b) 3)]] K↔K (.tuple #[wd (sz a*sz b),.bool (Ae a b)]):=aP G0W ae (OJ a b)
theorem oB {p:Prop} (h:p:=by have:=nz _ hm;omega):p:=h
theorem oT {p:Prop} (h:p:=by
 exact Jv _ _ _ h):p:=h
theorem DE {p:Prop} (h:p:=by
 rcases args with ⟨l⟩
 match l,hk with
 | [a,b],_=>exact ⟨a,b,rfl⟩):p:=h
theorem Fk {p:Prop} (h:p:=by
 intro k b c h1 h2;simp at h1 h2;rcases h1 with ⟨rfl,rfl⟩|⟨rfl,rfl⟩<;>rcases h2 with ⟨e2,rfl⟩|⟨e2,rfl⟩<;>first|rfl|omega):p:=h
theorem CX {p:Prop} (h:p:=by
 rw [pc];exact λx hx=>by simp [hpQ,(zO:¬x=100000),(zO:¬x=100008),(zO:100<=x)]):p:=h
theorem Dm {p:Prop} (h:p:=by
 obtain ⟨n,hn⟩:=XP h;refine Bj (K:=λv=>C (val v [])) ?_ ?_ λW=>?_
 ·intro y hy;simp [Op.operands] at hy;subst hy;exact ⟨hx,by rw [hn];rfl⟩
 ·rw [hn];rfl
 ·simp only [execOp,hn]
  kernel_rfl):p:=h
theorem wU {p:Prop} (h:p:=by
 unfold rst;rw [ab];rintro (h1|h1)
 ·omega
 ·have:=Gz x h1;omega):p:=h
theorem DD {p:Prop} (h:p:=by
 intro k hk;have h1:¬k=100000:=λe=>hk (HP k zO);have h2:¬k=100008:=λe=>hk (HP k zO);simp [h1,h2]):p:=h
theorem D9 {p:Prop} (h:p:=by
 have h1:¬k=100000:=λe=>hk (HP k zO);have h2:¬k=100008:=λe=>hk (HP k zO);rw [nK yZ,nK mN];simp [h1,h2]):p:=h

def erV (n:Int):Value:=.iface 35 (.int .i64 n)
@[simp] theorem afY (n:Int):erV n=.iface 35 (.int .i64 n):=rfl
def zB:Blk:=⟨#[.int .u64 0,.int .u64 0,.int .u64 0,.int .u64 0],.ty 140⟩
def eB (n:Int):Blk:=⟨#[.int .i64 n],.ty 35⟩
theorem Ti (n:Int) (W:World):(Instr.typeAssert (erV n) 20 35 true).run prog W=.ok (.tuple #[.int .i64 n,.bool true]) W:=ae
theorem O9 (W:World):(Instr.typeAssert .nilIface 20 35 true).run prog W=.ok (.tuple #[.int .i64 0,.bool false]) W:=ae
theorem afc:Array.replicate 10 undef=#[undef,undef,undef,undef,undef,undef,undef,undef,undef,undef]:=rfl
theorem anm:Array.replicate 7 undef=#[undef,undef,undef,undef,undef,undef,undef]:=rfl
def Gt:Array Value:=#[.pointer (some ⟨100000,0,none⟩),.pointer (some ⟨100008,0,none⟩)]
def hpQ (n:Int):Hp:=hpL G0 [(100000,zB),(100008,eB n)]
theorem pc (n:Int):rst (hpQ n) [100000,100008]=hpQ n:=kR G0F zS
theorem RN (n:Int) (k:Nat) (b:Blk) (D:gA) (h:hpQ n k=some b):b.ids D:=by
 rcases cB h with h|h
 ·simp at h;rcases h with ⟨_,rfl⟩|⟨_,rfl⟩<;>simp [zB,eB]
 ·exact oT
theorem asi (n:Int):RecF prog G0 175 Gt (hpQ 0) [100000,100008] (erV n) [(100000,zB),(100008,eB n)]:=by
 refine ⟨⟨_,func175⟩,call175,?_,?_⟩
 ·refine KQ (k:=2) func175 rfl λargs c₀ cs W hk hu=>?_
  obtain ⟨p0,p1,rfl⟩:∃ p0 p1,args=#[p0,p1]:=by
   exact DE
  have hn:f175.ntmps=12:=ntmps175;refine wpSIn_seq (wpSIn_region ?_);simp [wpOpsSIn,List.range,List.range.loop,go_sem,recoverD,hu,hn,O9,afc];refine wpSIn_seq (wpSIn_region ?_);simp [wpOpsSIn,List.range,List.range.loop,go_sem];refine wpSIn_cond (t:=false) (by simp [Act.eval]) ?_;refine wpSIn_of_wpIn rfl (wpIn_skip ?_);exact ⟨.inl rfl,rfl,rfl,rfl,.tuple #[],by simp [results,results175,go_sem]⟩
 ·refine AU (B:=200000) (A:=#[.pointer (some ⟨100000,0,none⟩),.pointer (some ⟨100008,0,none⟩),.int .i64 n,.bool true,.tuple #[.int .i64 n,.bool true],erV n,.tuple #[.int .i64 n,.bool true],.int .i64 n,.bool true,undef,undef,undef]) G0F (λk hk=>cD zS hk) func175 rfl (by simp [ntmps175]) ?_ ?_ ?_ ?_ ?_ ?_ zO ?_ ?_
  ·rw [pc];simp [hpQ,dom];exact cb zS
  ·intro r c₀ cs W Q hu hQ;have hrn:∀ v,bz v=true->ren r v=v:=λv hv=>bM hv;simp only [ff,bJ,dt,Gt] at hQ |-;generalize ren r (.pointer (some ⟨100000,0,none⟩))=p0 at hQ |-;generalize ren r (.pointer (some ⟨100008,0,none⟩))=p1 at hQ |-;simp only [hrn (.int .i64 n) rfl,hrn (.bool true) rfl,hrn (erV n) rfl,hrn (.tuple #[.int .i64 n,.bool true]) zS,ir] at hQ;have hn:f175.ntmps=12:=ntmps175;have hA:=Ti n;simp only [afY] at hA;simp [wpOpsSIn,List.range,List.range.loop,go_sem,recoverD,hu,Ux,erV,hn,hA,afc];exact hQ
  ·rw [pc];exact λk b h=>RN 0 k b _ h
  ·rw [pc];simp [hpQ,dom]
  ·exact Fk
  ·simp [zB,eB]
  ·exact CX
  ·intro C hC bQ hY;rw [pc];refine dy (k3 @hpQ.eq_1 @zB.eq_1 @eB.eq_1) ?_;refine ⟨.inl trivial,by simp [results175],λk hk=>?_⟩;simp [zB,eB,hpQ]
theorem Ny (W:World):((do eqGuard .neq 20 (.tmp 4) (.const .nilIface) .nilIface .nilIface;binOp .neq 20 .nilIface .nilIface:Sem Value)).run prog W=.ok (.bool false) W:=ae
def ifE:Value->Bool
 | .iface T (.int .i64 _)=>T==35
 | _=>false
def ifN:Value->Value
 | .iface _ u=>u
 | v=>v
@[simp] theorem ar0 (T:TypeId) (n:Int):ifE (.iface T (.int .i64 n))=(T==35):=nr rfl
@[simp] theorem ar1 (T:TypeId) (u:Value):ifN (.iface T u)=u:=nr rfl
theorem XP {v:Value} (h:ifE v=true):∃ n,v=erV n:=by
 unfold ifE at h;split at h
 ·rename_i T n;have:T=35:=kA;exact ⟨n,by rw [this];rfl⟩
 ·cases h
theorem Bj {P:Program} {o:Oper} {ts:eM} {hp:Hp} {K:iQ} {v:Value} (ho:∀ x∈o.op.operands.toList,okX ts hp x/\bz (gev ts x)=true) (hv:bz v=true) (hr:∀ W,(execOp (gev ts) o).run P W=.ok (.value v) W):Kl P o ts hp K↔K v :=
 ⟨λ⟨_,u,_,h1,h2⟩=>by
  have:=(hr default).symm.trans (h1 default);injection this with this;injection this with this;subst this;exact h2,λh=>⟨ho,v,hv,hr,h⟩⟩
@[simp] theorem aiN (P:Program) (op:BinOp) (T t:TypeId) (v:Value):vc P op T (.iface t v) .nilIface=none:=by cases op<;>rfl
@[simp] theorem ad2 {dst:Option Tmp} {x:Operand} {T:TypeId} {ps:String} {af:Array Edge} {g:Option (Nat×Bool)} {ts:eM} {hp:Hp} {C:Eff->Prop} (h:ifE (gev ts x)=true) (hx:okX ts hp x) :
  Pb prog none ⟨dst,.binOp .neq 20 x (.const .nilIface) 20,T,ps,af,g⟩ ts hp C↔C (val (.bool true) []):=by
 obtain ⟨n,hn⟩:=XP h;refine Bj (K:=λv=>C (val v [])) (v:=.bool true) ?_ rfl λW=>?_
 ·intro y hy;simp [Op.operands] at hy;rcases hy with rfl|rfl
  ·exact ⟨hx,by rw [hn];rfl⟩
  ·exact ⟨rfl,rfl⟩
 ·show (execOp (gev ts) ⟨dst,.binOp .neq 20 x (.const .nilIface) 20,T,ps,af,g⟩).run prog W=_;simp only [execOp,hn]
  kernel_rfl
@[simp] theorem ae3 {dst:Option Tmp} {x:Operand} {T:TypeId} {ps:String} {af:Array Edge} {g:Option (Nat×Bool)} {V:XV} {yc nk:Nat} {ts:eM} {hp:Hp} {C:Eff->Prop} (h:ifE (gev ts x)=true) (hx:okX ts hp x) :
  opX prog G0 V yc ⟨dst,.typeAssert x 20 35 false,T,ps,af,g⟩ ts hp nk C↔C (val (ifN (gev ts x)) []):=by
 exact Dm
theorem asq (n:Int):RecF prog G0 210 Gt (hpQ 0) [100000,100008] (erV n) [(100000,zB),(100008,eB n)]:=by
 refine ⟨⟨_,func210⟩,call210,?_,?_⟩
 ·refine KQ (k:=2) func210 rfl λargs c₀ cs W hk hu=>?_
  obtain ⟨p0,p1,rfl⟩:∃ p0 p1,args=#[p0,p1]:=by
   exact DE
  have hn:f210.ntmps=9:=ntmps210;refine wpSIn_seq (wpSIn_region ?_);simp [wpOpsSIn,List.range,List.range.loop,go_sem,recoverD,hu,hn,anm];refine wpSIn_seq (wpSIn_region ?_);simp [wpOpsSIn,List.range,List.range.loop,go_sem,Ny];refine wpSIn_cond (t:=false) (by simp [Act.eval]) ?_;refine wpSIn_of_wpIn rfl (wpIn_skip ?_);exact ⟨.inl rfl,rfl,rfl,rfl,.tuple #[],by simp [results,results210,go_sem]⟩
 ·refine AU (B:=200000) (A:=#[.pointer (some ⟨100000,0,none⟩),.pointer (some ⟨100008,0,none⟩),erV n,erV n,undef,undef,undef,undef,undef]) G0F (λk hk=>cD zS hk) func210 rfl (by simp [ntmps210]) ?_ ?_ ?_ ?_ ?_ ?_ zO ?_ ?_
  ·rw [pc];simp [hpQ,dom]
  ·intro r c₀ cs W Q hu hQ;have hrn:∀ v,bz v=true->ren r v=v:=λv hv=>bM hv;simp only [ff,bJ,dt,Gt] at hQ |-;generalize ren r (.pointer (some ⟨100000,0,none⟩))=p0 at hQ |-;generalize ren r (.pointer (some ⟨100008,0,none⟩))=p1 at hQ |-;simp only [hrn (erV n) rfl,ir] at hQ;have hn:f210.ntmps=9:=ntmps210;simp [wpOpsSIn,List.range,List.range.loop,go_sem,recoverD,hu,Ux,erV,hn,anm];exact hQ
  ·rw [pc];exact λk b h=>RN 0 k b _ h
  ·rw [pc];simp [hpQ,dom]
  ·exact Fk
  ·simp [zB,eB]
  ·exact CX
  ·intro C hC bQ hY;rw [pc];refine dy (k3 @hpQ.eq_1 @zB.eq_1 @eB.eq_1) ?_;refine ⟨.inl trivial,by simp [results210],λk hk=>?_⟩;simp [zB,eB,hpQ]
theorem Bm {g:FuncId} {mP:List Value} {hp:Hp} {rs:List Nat} {x0 x1 x2 x3:Int} {ws:bS} (hG:∀ k,k<100->hp k=G0 k) (Gz:∀ k∈rs,k<100000) (hc:mP.isEmpty=false) (tk:mP.all da=true)
  (h:Fun prog G0 g mP.toArray hp rs (.ret (.agg #[.int .u64 x0,.int .u64 x1,.int .u64 x2,.int .u64 x3]) ws)) :
  Fun prog G0 157 #[.func (.func g) #[] mP.toArray] hp rs (.ret (.tuple #[.agg #[.int .u64 x0,.int .u64 x1,.int .u64 x2,.int .u64 x3],.int .i64 0]) ws):=by
 have yA:∀ x∈mP,aR (dom (rst hp rs)) x:=λx hx=>(jF (dL.1 tk x hx)).1 (h.ids x cG)
 have HP:∀ x,100000<=x->rst hp rs x=none:=λx hx=>by
  exact wU
 refine K0 (out:=.ret (.tuple #[.agg #[.int .u64 x0,.int .u64 x1,.int .u64 x2,.int .u64 x3],.int .i64 0]) ws) (B:=100000) (B1:=100016) (id:=1) (t:=4) (ts1:=upd (upd (λt=>[Value.func (.func g) #[] mP.toArray][t]?.getD undef) 2 (th 100000)) 3 (th 100008))
  (hp1:=upd (upd (rst hp rs) 100000 (some zB)) 100008 (some (eB 0))) Gt G0F hG func157 rfl (by simp [ntmps157]) call157 ⟨_,_,_,_,asi 0⟩ ?_ h.closed ?_ (by simp [ntmps157]) zO HP ?_ ?_ ?_ ?_ ?_ ?_
 ·simpa using yA
 ·exact ⟨cb zS,h.fits.2⟩
 ·intro C hC bQ hY;refine fO ?_;exact ⟨eG,rfl⟩
 ·exact DD
 ·simp [okT,Gt]
 ·simp [Gt]
 ·simp [Gt]
 ·intro C d hC bQ hY;refine te ?_;refine iW [] ae ?_;intro Q hQ hP;simp [hC,hY,hc,tk];have nz:∀ k∈ak ws,k<100000:=λk hk=>Gz k (h.fits.2.1 k hk).1;have mN:(100000:Nat)∉ak ws:=λhm=>oB;have yZ:(100008:Nat)∉ak ws:=λhm=>oB
  have w1:bW (upd (upd (rst hp rs) 100000 (some zB)) 100008 (some (eB 0))) ws 100000=some zB:=by
   rw [dw mN];simp
  have w2:bW (upd (upd (rst hp rs) 100000 (some zB)) 100008 (some (eB 0))) ws 100008=some (eB 0):=by
   rw [dw yZ];simp
  refine eX (db:=hp) h (λk hk=>?_) hG trivial ?_
  ·have:=Gz k hk;simp [rst,hk,(zO:¬k=100000),(zO:¬k=100008)]
  simp only [zB,eB] at w1 w2;simp [w1,w2,zB,eB];refine hQ _ _ _ _ ?_;refine dy (k4 w1 w2 @zB.eq_1 @eB.eq_1) ?_;refine ⟨.inr rfl,by simp [results157],λk hk=>?_⟩;exact D9
theorem UR {g:FuncId} {mP:List Value} {hp:Hp} {rs:List Nat} {x0 x1 x2 x3:Int} {ws:bS} (hG:∀ k,k<100->hp k=G0 k) (Gz:∀ k∈rs,k<100000) (hc:mP.isEmpty=false) (tk:mP.all da=true)
  (h:Fun prog G0 g mP.toArray hp rs (.ret (.agg #[.int .u64 x0,.int .u64 x1,.int .u64 x2,.int .u64 x3]) ws)) :
  Fun prog G0 200 #[.func (.func g) #[] mP.toArray] hp rs (.ret (.tuple #[.agg #[.int .u64 x0,.int .u64 x1,.int .u64 x2,.int .u64 x3],.int .i64 0]) ws):=by
 have yA:∀ x∈mP,aR (dom (rst hp rs)) x:=λx hx=>(jF (dL.1 tk x hx)).1 (h.ids x cG)
 have HP:∀ x,100000<=x->rst hp rs x=none:=λx hx=>by
  exact wU
 refine K0 (out:=.ret (.tuple #[.agg #[.int .u64 x0,.int .u64 x1,.int .u64 x2,.int .u64 x3],.int .i64 0]) ws) (B:=100000) (B1:=100016) (id:=1) (t:=4) (ts1:=upd (upd (λt=>[Value.func (.func g) #[] mP.toArray][t]?.getD undef) 2 (th 100000)) 3 (th 100008))
  (hp1:=upd (upd (rst hp rs) 100000 (some zB)) 100008 (some (eB 0))) Gt G0F hG func200 rfl (by simp [ntmps200]) call200 ⟨_,_,_,_,asq 0⟩ ?_ h.closed ?_ (by simp [ntmps200]) zO HP ?_ ?_ ?_ ?_ ?_ ?_
 ·simpa using yA
 ·exact ⟨cb zS,h.fits.2⟩
 ·intro C hC bQ hY;refine fO ?_;exact ⟨eG,rfl⟩
 ·exact DD
 ·simp [okT,Gt]
 ·simp [Gt]
 ·simp [Gt]
 ·intro C d hC bQ hY;refine te ?_;refine iW [] ae ?_;intro Q hQ hP;simp [hC,hY,hc,tk];have nz:∀ k∈ak ws,k<100000:=λk hk=>Gz k (h.fits.2.1 k hk).1;have mN:(100000:Nat)∉ak ws:=λhm=>oB;have yZ:(100008:Nat)∉ak ws:=λhm=>oB
  have w1:bW (upd (upd (rst hp rs) 100000 (some zB)) 100008 (some (eB 0))) ws 100000=some zB:=by
   rw [dw mN];simp
  have w2:bW (upd (upd (rst hp rs) 100000 (some zB)) 100008 (some (eB 0))) ws 100008=some (eB 0):=by
   rw [dw yZ];simp
  refine eX (db:=hp) h (λk hk=>?_) hG trivial ?_
  ·have:=Gz k hk;simp [rst,hk,(zO:¬k=100000),(zO:¬k=100008)]
  simp only [zB,eB] at w1 w2;simp [w1,w2,zB,eB];refine hQ _ _ _ _ ?_;refine dy (k4 w1 w2 @zB.eq_1 @eB.eq_1) ?_;refine ⟨.inr rfl,by simp [results200],λk hk=>?_⟩;exact D9
theorem bd {p:Prop} (h:p:=by decide +kernel):p:=h
theorem vI {p:Prop} (h:p:=by unfold wi at h h0;unfold uz;omega):p:=h
abbrev qf := @Int.toNat_of_nonneg
abbrev uF := @Int.le_ediv_iff_mul_le
abbrev iF := @Nat.pow_le_pow_right

def bU (x:Int):Int:=if x<=0 then 0 else (Nat.log2 x.toNat:Int)+1
theorem pw {x:Int} (h:0<x):∃ k:Nat,bU x=k+1/\2^k<=x/\x<2^(k+1):=by
 refine ⟨Nat.log2 x.toNat,by unfold bU;rw [ab zO],?_,?_⟩
 ·have:=Nat.log2_self_le (n:=x.toNat) zO;have h2:((2^Nat.log2 x.toNat:Nat):Int)<=(x.toNat:Int):=by exact_mod_cast this
  rw [qf zO] at h2
  exact_mod_cast h2
 ·have:=Nat.lt_log2_self (n:=x.toNat);have h2:(x.toNat:Int)<((2^(Nat.log2 x.toNat+1):Nat):Int):=by exact_mod_cast this
  rw [qf zO] at h2
  exact_mod_cast h2
theorem Yl {x:Int} {k:Nat} (h1:2^k<=x) (h2:x<2^(k+1)):bU x=k+1:=by
 have hp:(0:Int)<2^k:=gC zO;unfold bU;rw [ab zO]
 have:Nat.log2 x.toNat=k:=(Nat.log2_eq_iff zO).2 ⟨by
  have:((2^k:Nat):Int)<=(x.toNat:Int):=by rw [qf zO];exact_mod_cast h1
  exact_mod_cast this,by
  have:(x.toNat:Int)<((2^(k+1):Nat):Int):=by rw [qf zO];exact_mod_cast h2
  exact_mod_cast this⟩
 rw [this]
theorem pt {x:Int} (j:Nat) (h:2^j<=x):bU x=j+bU (x / 2^j):=by
 have hp:(0:Int)<2^j:=gC zO
 have h1:0<x / 2^j:=by
  have:=(uF hp (a:=1) (b:=x)).2 zO;omega
 obtain ⟨k,e,l1,l2⟩:=pw h1;rw [e]
 have:=Yl (x:=x) (k:=j+k) (by
  have:=(uF hp).1 l1;rw [cC,cF];exact this) (by
  have:=(Int.ediv_lt_iff_lt_mul hp).1 l2;rw [qy,cC,cF];exact this)
 rw [this];omega
theorem XO {s:ByteArray} {m:Int} {C:Eff->Prop} (h0:0<=m) (h1:m<256) (ht:∀ k:Fin 256,(s[k.1]?).map (λb=>b.toNat)=some (if k.1=0 then 0 else Nat.log2 k.1+1)) (h:C (val (.int .u8 (bU m)) [])):M6 s m C:=by
 have h2:=ht ⟨m.toNat,zO⟩
 cases hb:s[m.toNat]? with
 | none=>simp [hb] at h2
 | some b =>
  simp only [hb,gL,bg] at h2;rw [ab4 h0 hb,h2]
  have:((if m.toNat=0 then 0 else Nat.log2 m.toNat+1:Nat):Int)=bU m:=by
   unfold bU;by_cases e:m<=0
   ·rw [ai e,ai zO];rfl
   ·rw [ab e,ab zO];rfl
  exact this▸h
theorem oa {x:Int} (h:x<256):0<=bU x/\bU x<=8:=by
 by_cases h0:0<x
 ·obtain ⟨k,e,l1,l2⟩:=pw h0;rw [e]
  have:k<8:=aO λhk=>by
   have:(2:Int)^8<=2^k:=by exact_mod_cast iF zO (by omega:8<=k)
   omega
  omega
 ·unfold bU;rw [ai zO];omega
@[simp] theorem apV (z:Int):IntKind.u8.wrap z=z%256:=rfl
theorem T8 (x:Int) (h0:0<=x) (h1:x<18446744073709551616):Ret prog G0 218 #[.int .u64 x] (.int .i64 (bU x)):=by
 refine ck G0F func218 rfl call218 rfl zS (by simp [ntmps218]) ?_;intro C hC bQ hY;have f32:∀ z:Int,z.fdiv 4294967296=z / 4294967296:=λz=>iA z zO;have f16:∀ z:Int,z.fdiv 65536=z / 65536:=λz=>iA z zO;have f8:∀ z:Int,z.fdiv 256=z / 256:=λz=>iA z zO;have n32:4294967296<=x->bU x=32+bU (x / 4294967296):=pt 32;have n16:∀ y:Int,65536<=y->bU y=16+bU (y / 65536):=λy=>pt 16;have n8:∀ y:Int,256<=y->bU y=8+bU (y / 256):=λy=>pt 8
 repeat' (first|refine Vn ?_|(refine g6 ?_;intro Q hQ hP;simp [hC,hY,f32,f16,f8];refine cQ hQ ?_;clear hQ hP Q)|refine gwC ?_ ?_<;>intro hb<;>try (cases hb;done))
 all_goals
  rename_i c1 c2;simp at c1 c2 hb;refine iW [] ae ?_;intro Q hQ hP;simp [hC,hY];refine XO zO zO bd ?_;simp;refine hQ _ _ _ _ ?_
  repeat' (first|refine Vn ?_|(refine g6 ?_;intro Q hQ hP;simp [hC,hY];refine cQ hQ ?_;clear hQ hP Q)|refine gwC ?_ ?_<;>intro hb<;>try (cases hb;done))
  refine ⟨.inr trivial,?_⟩;simp [results218];rw [cP zO zO];have k2:=n16 x;have k3:=n16 (x / 4294967296);have k4:=n8 x;have k5:=n8 (x / 4294967296);have k6:=n8 (x / 65536);have k7:=n8 (x / 4294967296 / 65536);have b1:=oa (x:=x);have b2:=oa (x:=x / 256);have b3:=oa (x:=x / 65536);have b4:=oa (x:=x / 65536 / 256);have b5:=oa (x:=x / 4294967296);have b6:=oa (x:=x / 4294967296 / 256);have b7:=oa (x:=x / 4294967296 / 65536);have b8:=oa (x:=x / 4294967296 / 65536 / 256);rw [bm zO zO]
  try omega
@[simp] theorem atU (x:Int) (h0:0<=x) (h1:x<18446744073709551616) (K:iQ):cu prog G0 218 #[.int .u64 x] K↔K (.int .i64 (bU x)):=aP G0W ae (T8 x h0 h1)
def uz (z:Int):Int:=z%115792089237316195423570985008687907853269984665640564039457584007913129639936
theorem pN {x:Int} (j:Nat) (h:x<2^j):0<=bU x/\bU x<=j:=by
 by_cases h0:0<x
 ·obtain ⟨k,e,l1,l2⟩:=pw h0;rw [e]
  have:k<j:=aO λhk=>by
   have:(2:Int)^j<=2^k:=by exact_mod_cast iF zO (by omega:j<=k)
   omega
  omega
 ·unfold bU;rw [ai zO];omega
theorem qX (z:Int) (k:Nat):0<=bU (wi z k)/\bU (wi z k)<=64:=pN 64 (by have:=fi z k;omega)
theorem Zi (z:Int) (h:¬wi z 3=0):bU (uz z)=192+bU (wi z 3):=by
 have h0:=eC z 3;have e:uz z / 2^192=wi z 3:=by unfold uz wi;omega
 have:=pt (x:=uz z) 192 vI;rw [this,e];rfl
theorem Zh (z:Int) (h3:wi z 3=0) (h:¬wi z 2=0):bU (uz z)=128+bU (wi z 2):=by
 have h0:=eC z 2;have e:uz z / 2^128=wi z 2:=by unfold wi at h3;unfold uz wi;omega
 have:=pt (x:=uz z) 128 vI;rw [this,e];rfl
theorem Zg (z:Int) (h3:wi z 3=0) (h2:wi z 2=0) (h:¬wi z 1=0):bU (uz z)=64+bU (wi z 1):=by
 have h0:=eC z 1;have e:uz z / 2^64=wi z 1:=by unfold wi at h3 h2;unfold uz wi;omega
 have:=pt (x:=uz z) 64 vI;rw [this,e];rfl
theorem Zf (z:Int) (h3:wi z 3=0) (h2:wi z 2=0) (h1:wi z 1=0):uz z=wi z 0:=by
 unfold wi at h3 h2 h1;unfold uz wi;omega
theorem lU {p:Prop} (h:p:=by cases h;simp):p:=h
theorem Yf (n:Int):yP prog G0 163 #[.bool true,.int .i64 n] (.ret (.tuple #[])):=by
 refine tJ G0F func163 rfl call163 (λv h=>lU) zS (by simp [ntmps163]) ?_;intro C hC bQ hY
 repeat' (first|refine Vn ?_|(refine g6 ?_;intro Q hQ hP;simp [hC,hY];(first|refine cQ hQ ?_|refine hP _ _ ae λ_=>?_);clear hQ hP Q)|refine gwC ?_ ?_<;>intro hb<;>try (cases hb;done))
 exact ⟨.inl trivial,by simp [results163]⟩
theorem aip (z:Int):yP prog G0 160 #[wd z,.bool false] (.ret (wd z)):=by
 refine tJ G0F func160 rfl call160 (λv h=>lU) zS (by simp [ntmps160]) ?_;intro C hC bQ hY
 repeat' (first|refine Vn ?_|((first|refine gwR [1000163] ?_|refine gwD [1000163] ?_);intro Q hQ hP;(repeat first|simp [hC,hY]|refine mB (Yf 20) ?_);(first|refine cQ hQ ?_|refine hP _ _ ae λ_=>?_);clear hQ hP Q)|refine gwC ?_ ?_<;>intro hb<;>try (cases hb;done))
 exact ⟨.inr trivial,by simp [results160]⟩
theorem Zj (z:Int):Ret prog G0 214 #[wd z] (.int .i64 (bU (uz z))):=by
 refine ck G0F func214 rfl call214 rfl zS (by simp [ntmps214]) ?_;intro C hC bQ hY;have b0:=qX z 0;have b1:=qX z 1;have b2:=qX z 2;have b3:=qX z 3;have k3:=Zi z;have k2:=Zh z;have k1:=Zg z;have k0:=Zf z;have m3:Int.bmod (192+bU (wi z 3)) 18446744073709551616=192+bU (wi z 3):=bm zO zO;have m2:Int.bmod (128+bU (wi z 2)) 18446744073709551616=128+bU (wi z 2):=bm zO zO;have m1:Int.bmod (64+bU (wi z 1)) 18446744073709551616=64+bU (wi z 1):=bm zO zO
 repeat' (first|refine cH ?_|refine dc ?_|refine Vn ?_|(refine g6 ?_;intro Q hQ hP;simp [hC,hY,eC,fi,m1,m2,m3];(first|refine cQ hQ ?_|refine hP _ _ ae λ_=>?_);clear hQ hP Q)|refine gwC ?_ ?_<;>intro hb<;>try (cases hb;done))
 all_goals
  refine ⟨.inr trivial,?_⟩;simp [results214]
  simp_all
@[simp] theorem auh (z:Int) (K:iQ):cu prog G0 214 #[Value.agg #[.int .u64 (wi (z) 0),.int .u64 (wi (z) 1),.int .u64 (wi (z) 2),.int .u64 (wi (z) 3)]] K↔K (.int .i64 (bU (uz z))):=aP G0W ae (Zj z)
theorem rO {p:Prop} (h:p:=by rw [nY zO];omega):p:=h
theorem rz {p:Prop} (h:p:=by rw [Ml zO];omega):p:=h
abbrev qh := @Int.emod_emod_of_dvd
abbrev BB := @Int.mul_ediv_mul_of_pos_left
abbrev j9 := @Int.mul_emod_left
abbrev BJ := @Int.lt_of_mul_lt_mul_left
abbrev qI := @Int.mul_one
abbrev j7 := @Int.mul_ediv_cancel
abbrev nY := @Int.tdiv_eq_ediv_of_nonneg
abbrev Ml := @Int.tmod_eq_emod_of_nonneg

theorem emm (a p m:Int):a%m*p%m=a*p%m:=by rw [Int.mul_emod,qh _ (Int.dvd_refl _),<-Int.mul_emod]
theorem YD {x y:Int} {R:Nat} (PX:0<=x) (hx:x<18446744073709551616) (hd:x%2^R=0) (XK:0<=y) (hy:y<2^R) (hR:R<=64):jE .or .u64 x y=x+y:=by
 have hp:(2:Int)^R<=2^64:=by exact_mod_cast iF zO (by omega:R<=64)
 have e:jE .or .u64 x y=((BitVec.ofInt 64 x ||| BitVec.ofInt 64 y:BitVec 64).toNat:Int)%18446744073709551616:=by
  exact Ey
 have tn:(BitVec.ofInt 64 x).toNat=x.toNat:=by
  rw [nO];congr 1;exact cP PX hx
 have hy':(BitVec.ofInt 64 y).toNat=y.toNat:=by
  rw [nO];congr 1;exact cP XK zO
 obtain ⟨X,rfl⟩:=Int.eq_ofNat_of_zero_le PX;obtain ⟨Y,rfl⟩:=Int.eq_ofNat_of_zero_le XK;have tV:X%2^R=0:=by exact_mod_cast hd
 have hY:Y<2^R:=by exact_mod_cast hy
 have hX:X=(X / 2^R) <<< R:=by rw [Nat.shiftLeft_eq];exact (Nat.div_mul_cancel (Nat.dvd_of_mod_eq_zero tV)).symm
 have Vz:X ||| Y=X+Y:=by
  rw [hX];exact (Nat.shiftLeft_add_eq_or_of_lt hY _).symm
 have db:2^R<=2^64:=iF zO (by omega:R<=64)
 have hb:X+Y<18446744073709551616:=by
  rw [<-Vz];exact Nat.or_lt_two_pow (n:=64) zO zO
 rw [e,BitVec.toNat_or,tn,hy'];simp only [Int.toNat_natCast,Vz];omega
theorem U6 {R:Nat} (hR:R<64):(2:Int)^R*2^(64 - R)=18446744073709551616:=by
 rw [<-cC,(zO:R+(64 - R)=64)];rfl
theorem adR (z:Int) (R:Nat):wi (z*2^R) 0=(wi z 0*2^R)%18446744073709551616:=by
 simp only [wi,au,Int.pow_zero,Int.ediv_one];rw [emm]
theorem adS (z:Int) (R:Nat) (hR:R<64) (k:Nat):wi (z*2^R) (k+1)=(wi z (k+1)*2^R)%18446744073709551616+wi z k / 2^(64 - R)/\0<=wi z k / 2^(64 - R)/\wi z k / 2^(64 - R)<2^R/\(wi z (k+1)*2^R)%18446744073709551616%2^R=0:=by
 have hM:=U6 hR;have hPp:(0:Int)<2^R:=gC zO;have hSp:(0:Int)<2^(64 - R):=gC zO
 have e1:(2:Int)^(64*(k+1))=2^(64*k)*18446744073709551616:=by
  rw [(zO:64*(k+1)=64*k+64),cC];rfl
 have hKp:(0:Int)<2^(64*k):=gC zO;unfold wi;rw [e1];generalize (2:Int)^R=P at *
 generalize (2:Int)^(64 - R)=S at *
 generalize (2:Int)^(64*k)=K at *
 have eu:z*P / (K*18446744073709551616)=z / K / S:=by
  rw [<-hM,show K*(P*S)=(K*S)*P by rw [cF P S,ca],BB _ _ hPp,j3 zO]
 rw [eu,<-j3 (dh hKp)];generalize z / K=u at *
 have abH:P ∣ 18446744073709551616:=⟨S,hM.symm⟩
 have h1:0<=u%18446744073709551616 / S:=gQ (cy _ zO) zO
 have h2:u%18446744073709551616 / S<P:=by
  have:=cE u (b:=18446744073709551616) zO;exact (Int.ediv_lt_iff_lt_mul hSp).2 (by rw [hM];exact this)
 have h3:(u / 18446744073709551616%18446744073709551616*P)%18446744073709551616%P=0:=by
  rw [qh _ abH,j9]
 refine ⟨?_,h1,h2,h3⟩
 have e2:u / S=(u / 18446744073709551616)*P+u%18446744073709551616 / S:=by
  have:=fy u 18446744073709551616
  have h4:u=u%18446744073709551616+S*(u / 18446744073709551616*P):=by
   have:S*(u / 18446744073709551616*P)=18446744073709551616*(u / 18446744073709551616):=by
    rw [<-hM,cF P S,ca,cF _ P]
   omega
  conv=>lhs;rw [h4]
  rw [iD _ _ zO];omega
 rw [e2,emm];have h5:(u / 18446744073709551616*P)%18446744073709551616%P=0:=by rw [qh _ abH,j9]
 have h6:=cy (u / 18446744073709551616*P) (b:=18446744073709551616) zO;have h7:=cE (u / 18446744073709551616*P) (b:=18446744073709551616) zO
 have h8:(u / 18446744073709551616*P)%18446744073709551616<=18446744073709551616 - P:=by
  obtain ⟨c,hc⟩:=Int.dvd_of_emod_eq_zero h5;rw [hc] at h7 |-;rw [<-hM] at h7 |-;have:c<S:=BJ h7 zO;have:P*c<=P*(S - 1):=iG zO zO;rw [lI,qI] at this;exact this
 rw [Int.add_emod,cP h1 zO,cP zO zO]
theorem anX (z:Int) (q i R:Nat) (h:q<=i):wi (z*2^(64*q+R)) i=wi (z*2^R) (i - q):=by
 unfold wi;obtain ⟨j,rfl⟩:∃ j,i=q+j:=⟨i - q,zO⟩
 rw [(zO:q+j - q=j),cC,show z*(2^(64*q)*2^R)=(z*2^R)*2^(64*q) by rw [cF (2^(64*q)),ca],(zO:64*(q+j)=64*j+64*q),cC,
  BB _ _ (gC zO)]
theorem anW (z:Int) (q i R:Nat) (h:i<q):wi (z*2^(64*q+R)) i=0:=by
 unfold wi;obtain ⟨j,rfl⟩:∃ j,q=i+1+j:=⟨q - (i+1),zO⟩
 rw [show 64*(i+1+j)+R=64*i+(64+(64*j+R)) by omega,cC,cC,show z*(2^(64*i)*(2^64*2^(64*j+R)))=(z*2^(64*j+R)*2^64)*2^(64*i) by
  rw [cF (2^(64*i)),cF (2^64) (2^(64*j+R))];simp only [ca],j7 _ (by have:(0:Int)<2^(64*i):=gC zO;omega)]
 exact j9 _ _
theorem U0 (z:Int) (q R:Nat) (hq:q<4) (hR:R<64):Ret prog G0 215 #[wd z,.int .i64 (64*q+R)] (wd (z*2^(64*q+R))):=by
 refine ck G0F func215 rfl call215 zS zS (by simp [ntmps215]) ?_;intro C hC bQ hY;have t1:(64*(q:Int)+R).tdiv 64=q:=rO;have t2:(64*(q:Int)+R).tmod 64=R:=rz;have m1:min R 64=R:=zO;have m2:Int.bmod (64 - (R:Int)) 18446744073709551616=64 - R:=bm zO zO;have m3:(64 - (R:Int)).toNat=64 - R:=zO;have m4:min (64 - R) 64=64 - R:=zO;have m5:(R:Int)<=64:=zO;have m6:(0:Int)<=64 - R:=zO;have fd:∀ x:Int,x.fdiv (2^(64 - R))=x / 2^(64 - R):=λx=>iA x (dh (gC zO))
 have OR:∀ k,jE .or .u64 ((wi z (k+1)*2^R)%18446744073709551616) (wi z k / 2^(64 - R))=wi (z*2^R) (k+1):=λk=>by
  obtain ⟨e,h1,h2,h3⟩:=adS z R hR k;rw [YD (R:=R) (cy _ zO) (cE _ zO) h3 h1 h2 zO,e]
 have o0:=OR 0;have o1:=OR 1;have o2:=OR 2;have s0:=adR z R;have:q=0\/q=1\/q=2\/q=3:=zO;have up:=anX z;have dn:=anW z;rcases this with rfl|rfl|rfl|rfl
 ·simp at t1 t2;refine vj (k11 t1 t2 m1 m2 m3 m4 m5 m6 fd @eC @fi) ?_;exact eR (k5 results215 o0 o1 o2 s0)
 ·simp at t1 t2;refine vj (k11 t1 t2 m1 m2 m3 m4 m5 m6 fd @eC @fi) ?_;refine ⟨.inr trivial,?_⟩;simp [results215,o0,o1,o2,s0];exact ⟨(dn 1 0 R zO).symm,((up 1 1 R zO).trans s0).symm,(up 1 2 R zO).symm,(up 1 3 R zO).symm⟩
 ·simp at t1 t2;refine vj (k11 t1 t2 m1 m2 m3 m4 m5 m6 fd @eC @fi) ?_;refine ⟨.inr trivial,?_⟩;simp [results215,o0,o1,o2,s0];exact ⟨(dn 2 0 R zO).symm,(dn 2 1 R zO).symm,((up 2 2 R zO).trans s0).symm,(up 2 3 R zO).symm⟩
 ·simp at t1 t2;refine vj (k11 t1 t2 m1 m2 m3 m4 m5 m6 fd @eC @fi) ?_;refine ⟨.inr trivial,?_⟩;simp [results215,o0,o1,o2,s0];exact ⟨(dn 3 0 R zO).symm,(dn 3 1 R zO).symm,(dn 3 2 R zO).symm,((up 3 3 R zO).trans s0).symm⟩
theorem ads (z n:Int) (h0:0<=n) (h1:n<256):Ret prog G0 215 #[wd z,.int .i64 n] (wd (z*2^n.toNat)):=by
 have h:=U0 z (n / 64).toNat (n%64).toNat zO zO;have e:64*(n / 64).toNat+(n%64).toNat=n.toNat:=zO;have e':(64*((n / 64).toNat:Int)+((n%64).toNat:Int))=n:=zO;rw [e,e'] at h;exact h
@[simp] theorem asj (z n:Int) (h0:0<=n) (h1:n<256) (K:iQ):cu prog G0 215 #[Value.agg #[.int .u64 (wi (z) 0),.int .u64 (wi (z) 1),.int .u64 (wi (z) 2),.int .u64 (wi (z) 3)],.int .i64 n] K↔K (wd (z*2^n.toNat)):=aP G0W ae (ads z n h0 h1)
theorem rr {p:Prop} (h:p:=by unfold uz;omega):p:=h

theorem QH (a b:Int) (k:Nat) (g5:100<=k):Fun prog G0 206 #[wd a,wd b] G0 [] (.new (.func (.func 213) #[] #[.pointer (some ⟨k,0,none⟩),.pointer (some ⟨k+1,0,none⟩)]) [(k,wb a),(k+1,wb b)]):=by
 have e0:rst G0 []=G0:=vA G0F [];refine Ih (B:=200) (λj=>if j=k then 200 else if j=k+1 then 208 else j) G0F (λ_ _=>rfl) func206 rfl call206 iT wE ?_ (by simp [ntmps206]) zO wz (λj hj=>?_) ?_ ?_ ?_ ?_
 ·exact DT
 ·rw [e0] at hj;have:=AM hj;rw [ab zO,ab zO]
 ·simp [e0,dom]
 ·simp
 ·simp [wb,aF,aL,aR]
 ·intro C hC bQ hY;rw [e0];refine fO ?_;refine ⟨.inr trivial,?_⟩;simp [results206,ren,aT,aw,aA,wb];intro j hj;have:=AM hj;exact fG
theorem SO (z:Int):0<=uz z/\uz z<2^256:=rr
def shN (a b:Int):Int:=bU (uz a) - bU (uz b)
theorem Ze (a b:Int):-256<=shN a b/\shN a b<=256:=by
 have h1:=pN 256 (SO a).2;have h2:=pN 256 (SO b).2;unfold shN;omega
def Ok (b N:Int):List (Array Value):=(List.range (N+1).toNat).map λ(i:Nat)=>#[.int .i64 (N - (i:Int)),wd (b*2^(N - (i:Int)).toNat)]
theorem IC (b N:Int):(Ok b N).length=(N+1).toNat:=by simp [Ok]
theorem SH (b N:Int) (i:Nat) (h:i<(N+1).toNat):(Ok b N)[i]? = some #[.int .i64 (N - i),wd (b*2^(N - i).toNat)]:=by
 simp [Ok,h]
def UZ (a b N:Int) (l i:Nat):GS :=
 ⟨tsL [(0,.func (.yield l) #[] #[]),(1,.pointer (some ⟨100,0,none⟩)),(2,.pointer (some ⟨101,0,none⟩)),(4,.int .i64 (N - i))],wHp a b,300,i⟩
theorem U1 (a b:Int) (cA:shN a b<256):pD prog G0 213 #[.pointer (some ⟨100,0,none⟩),.pointer (some ⟨101,0,none⟩)] (wHp a b) [100,101] (Ok b (shN a b)):=by
 have e0:rst (wHp a b) [100,101]=wHp a b:=kR G0F zS;refine G2 (B:=200) (v:=.tuple #[]) G0F (λk hk=>cD zS hk) func213 rfl call213 ?_ ?_ (by simp [ntmps213]) zO ?_ ?_
 ·rw [e0];simp [aN,cp,aL,aR,dom,wHp]
 ·exact C7
 ·exact F5
 ·intro C l stop hC bQ hY;rw [e0] at bQ |-;have Z9:=Ze a b;have hN:Int.bmod (bU (uz a) - bU (uz b)) 18446744073709551616=shN a b:=bm (by unfold shN at Z9;omega) (by unfold shN at Z9;omega);have hlen:=IC b (shN a b);generalize hn:shN a b=N at *
  generalize yH:Ok b N=xs at *
  refine nh 0 (λm s=>∃ i,i<=stop/\i+m=xs.length/\s=UZ a b N l i) rfl ?_ ?_
  ·rintro m _ ⟨i,hi,Vs,rfl⟩;have atf:(i:Int)<=257:=zO;by_cases hl:i<xs.length
   ·have g1:(i:Int)<=N:=zO;have g2:N - (i:Int)<256:=zO;have g4:Int.bmod (N - (i:Int) - 1) 18446744073709551616=N - ((i+1:Nat):Int):=by rw [bm zO zO];omega
    have hx:xs[i]? = some #[.int .i64 (N - (i:Int)),wd (b*2^(N - (i:Int)).toNat)]:=by
     rw [<-yH];exact SH b N i zO
    simp only [ZJ] at hx;by_cases hs:i=stop
    ·have q1:(i != stop)=false:=by simp [hs]
     unfold UZ;refine dy (k7 @wHp.eq_1 @wb.eq_1 hi g1 g2 hx q1) ?_;refine ⟨.inl trivial,by simp [results213],?_⟩;show i+1=_;omega
    ·have q1:(i != stop)=true:=by simp [hs]
     unfold UZ;refine dy (k8 @wHp.eq_1 @wb.eq_1 hi g1 g2 g4 hx q1) ?_;refine ⟨rfl,UZ a b N l (i+1),xs.length - (i+1),dv _ 300 hC G0F (m:=[(100,wb a),(101,wb b)]) (m0:=[(100,wb a),(101,wb b)]) bQ zO ?_ ?_ ?_,⟨i+1,zO,zO,rfl⟩,zO⟩
     ·exact fY
     ·simp [wb]
     ·simp [wb]
   ·have g1:¬(i:Int)<=N:=zO;unfold UZ;refine dy (k3 @wHp.eq_1 @wb.eq_1 g1) ?_;refine ⟨.inl trivial,by simp [results213],?_⟩;show i=_;omega
  ·intro pass;refine te ?_
   (refine g6 ?_;intro Q hQ hP;simp [hC,hY,wHp,wb,hN];refine cQ hQ ?_;clear hQ hP Q)
   simp only [wN,wM,Nat.reduceAdd,Nat.reduceMul];refine te (Mc ?_);simp only [gK];refine pass xs.length (UZ a b N l 0) _ ?_ ⟨0,zO,zO,rfl⟩;refine dv _ 300 hC G0F (m:=[(100,wb a),(101,wb b)]) (m0:=[(100,wb a),(101,wb b)]) bQ zO ?_ ?_ ?_
   ·exact fY
   ·simp [wb]
   ·simp [wb]
end Go.Gy
namespace Go.Gy
open Go Go.RowKit Go.Proofs
theorem vL {p:Prop} (h:p:=by have:=eZ (64*j);omega):p:=h
theorem FG {p:Prop} (h:p:=by
 constructor
 ·rw [ea,uM,cP zO zO]
 ·rw [ea,iD _ _ zO,fR zO zO];omega):p:=h
abbrev dq := @Int.le_trans
abbrev ly := @Int.pow_succ
abbrev ki := @Int.mul_pos
abbrev uQ := @Int.lt_of_lt_of_le
abbrev gM := @Int.mul_le_mul_of_nonneg_right

theorem afl {z:Int} (h0:-57896044618658097711785492504343953926634992332820282019728792003956564819968<=z) (h1:z<57896044618658097711785492504343953926634992332820282019728792003956564819968):sz z=z:=by
 unfold sz;rw [dz];split<;>omega
theorem LL {z:Int} (h0:0<=z) (h1:z<57896044618658097711785492504343953926634992332820282019728792003956564819968):sz z=z:=afl (dq zD h0) h1
theorem WN (a M:Int) (hM:0<M):(M<=a%(2*M)->a%M=a%(2*M) - M/\a / M=2*(a / (2*M))+1)/\(a%(2*M)<M->a%M=a%(2*M)/\a / M=2*(a / (2*M))):=by
 have h1:=fy a (2*M);have h2:=cy a (b:=2*M) zO;have h3:=cE a (b:=2*M) zO;have e:2*M*(a / (2*M))=M*(2*(a / (2*M))):=by rw [cF 2 M,ca]
 rw [e] at h1;generalize a%(2*M)=r at *
 generalize 2*(a / (2*M))=k at *
 constructor
 ·intro h;have ea:a=(r - M)+M*(k+1):=by rw [fh];omega
  exact FG
 ·intro h;have ea:a=r+M*k:=zO;exact FG
theorem eZ (k:Nat):(0:Int)<2^k:=gC zO
theorem aiC (c:Int) (t r:Nat) (hr:r<64):jE .or .u64 (wi (c*2^(64*t+r+1)) t) (2^r)=wi (c*2^(64*t+r+1)+2^(64*t+r)) t:=by
 have e1:c*2^(64*t+r+1) / 2^(64*t)=c*2^(r+1):=by
  rw [(zO:64*t+r+1=(r+1)+64*t),cC,<-ca,j7 _ (by have:=eZ (64*t);omega)]
 have e2:(c*2^(64*t+r+1)+2^(64*t+r)) / 2^(64*t)=c*2^(r+1)+2^r:=by
  have x1:(2:Int)^(64*t+r+1)=2^(r+1)*2^(64*t):=oL;have x2:(2:Int)^(64*t+r)=2^r*2^(64*t):=oL;rw [x1,x2,<-ca,<-fV,j7 _ (by have:=eZ (64*t);omega)]
 have hM:(18446744073709551616:Int)=2^(63 - r)*2^(r+1):=by rw [<-cC,(zO:63 - r+(r+1)=64)];rfl
 have abH:(2:Int)^(r+1) ∣ 18446744073709551616:=⟨2^(63 - r),by rw [hM,cF]⟩
 have hp:=eZ r;have hp1:(2:Int)^(r+1)=2*2^r:=by rw [ly,cF]
 have h5:(c*2^(r+1))%18446744073709551616%2^(r+1)=0:=by rw [qh _ abH,j9]
 have h6:=cy (c*2^(r+1)) (b:=18446744073709551616) zO;have h7:=cE (c*2^(r+1)) (b:=18446744073709551616) zO
 have h8:(c*2^(r+1))%18446744073709551616<=18446744073709551616 - 2^(r+1):=by
  obtain ⟨d,hd⟩:=Int.dvd_of_emod_eq_zero h5;rw [hd] at h7 |-;have hs:=eZ (63 - r);have hq:=eZ (r+1);rw [hM] at h7 |-;generalize (2:Int)^(r+1)=P at *
  generalize (2:Int)^(63 - r)=S at *
  rw [cF S P] at h7 |-;have:d<S:=BJ h7 zO;have:P*d<=P*(S - 1):=iG zO zO;rw [lI,qI] at this;exact this
 unfold wi;rw [e1,e2,YD (R:=r+1) h6 h7 h5 zO zO zO,Int.add_emod (c*2^(r+1)),cP (a:=2^r) zO zO,cP (a:=c*2^(r+1)%18446744073709551616+2^r) zO zO]
theorem OG (c:Int) (t r j:Nat) (hr:r<64) (h:j≠t):wi (c*2^(64*t+r+1)+2^(64*t+r)) j=wi (c*2^(64*t+r+1)) j:=by
 unfold wi;by_cases hj:j<t
 ·obtain ⟨m,rfl⟩:∃ m,t=j+1+m:=⟨t - (j+1),zO⟩
  have e:(2:Int)^(64*(j+1+m)+r)=(2^(64*m+r)*18446744073709551616)*2^(64*j):=by
   rw [(zO:64*(j+1+m)+r=64*m+r+64+64*j),cC,cC];rfl
  rw [ly,e,show c*(2^(64*m+r)*18446744073709551616*2^(64*j)*2)=(c*2*2^(64*m+r)*18446744073709551616)*2^(64*j) by
   simp only [ca,cF,qo],<-fV,j7 _ vL,j7 _ vL,<-fV,j9,j9]
 ·obtain ⟨m,rfl⟩:∃ m,j=t+1+m:=⟨j - (t+1),zO⟩
  have e:(2:Int)^(64*(t+1+m))=2^(64*t+r+1)*2^(64*m+(63 - r)):=by
   rw [<-cC];congr 1;omega
  have hp:=eZ (64*t+r);have hq:(2:Int)^(64*t+r+1)=2*2^(64*t+r):=by rw [ly,cF]
  have hc:(c*2^(64*t+r+1)+2^(64*t+r)) / 2^(64*t+r+1)=c:=by
   rw [Int.add_comm,Int.add_mul_ediv_right _ _ zO,fR zO zO];omega
  rw [e,<-j3 (dh (eZ _)),<-j3 (dh (eZ _)),hc,j7 _ zO]
def rA (a b:Int) (k:Nat):Int:=a%(b*2^k)
def qA (a b:Int) (k:Nat):Int:=a / (b*2^k)*2^k
theorem abe (a b:Int) (hb:0<b) (k:Nat):(b*2^k<=rA a b (k+1)->rA a b k=rA a b (k+1) - b*2^k/\qA a b k=qA a b (k+1)+2^k)/\(rA a b (k+1)<b*2^k->rA a b k=rA a b (k+1)/\qA a b k=qA a b (k+1)):=by
 have hp:=eZ k;have e:b*2^(k+1)=2*(b*2^k):=by rw [ly,<-ca,cF]
 have e2:∀ x:Int,x*2^(k+1)=2*x*2^k:=λx=>by rw [ly,cF (2^k),<-ca,cF x 2]
 have h:=WN a (b*2^k) (ki hb hp);unfold rA qA;rw [e,e2];refine ⟨λh1=>?_,λh1=>?_⟩
 ·obtain ⟨h2,h3⟩:=h.1 h1;exact ⟨h2,by rw [h3,fV,Int.one_mul]⟩
 ·obtain ⟨h2,h3⟩:=h.2 h1;exact ⟨h2,by rw [h3]⟩
theorem afS (a b:Int):rA a b 0=a%b/\qA a b 0=a / b:=by simp [rA,qA]
theorem WI (a b:Int) (k:Nat) (h0:0<=a) (h:a<b*2^k):rA a b k=a/\qA a b k=0:=by
 unfold rA qA;rw [cP h0 h,fR h0 h];simp
theorem aif (a b:Int) (Z8:0<=a) (A9:0<b) (ha:a<2^256) (hb:b<2^256):a<b*2^(shN a b+1).toNat/\(0<=shN a b->b*2^(shN a b).toNat<2^(bU a).toNat):=by
 have ea:uz a=a:=rr;have eb:uz b=b:=rr;unfold shN;rw [ea,eb];obtain ⟨j,hj,j1,j2⟩:=pw A9;by_cases h0:a=0
 ·subst h0;have e0:bU 0=0:=rfl;rw [e0,hj];exact ⟨ki A9 (eZ _),λh=>zO⟩
 ·obtain ⟨k,hk,k1,k2⟩:=pw (x:=a) zO;rw [hk,hj];refine ⟨?_,λh=>?_⟩
  ·by_cases hkj:j<=k+1
   ·have e:((k:Int)+1 - (j+1)+1).toNat=k+1 - j:=zO;rw [e];refine uQ k2 ?_;have h3:(2:Int)^(k+1)=2^j*2^(k+1 - j):=oL;rw [h3];exact gM j1 (dh (eZ _))
   ·have e:((k:Int)+1 - (j+1)+1).toNat=0:=zO;rw [e,Int.pow_zero,qI];refine uQ k2 (dq ?_ j1)
    exact_mod_cast iF zO (by omega:k+1<=j)
  ·have e:((k:Int)+1 - (j+1)).toNat=k - j:=zO;have e':((k:Int)+1).toNat=k+1:=zO;rw [e,e'];have h3:(2:Int)^(k+1)=2^(j+1)*2^(k - j):=oL;rw [h3];exact uB j2 (eZ _)
end Go.Gy
namespace Go.Gy
open Go Go.RowKit Go.Proofs Go.Proofs.Tryz
theorem rV {p:Prop} (h:p:=by exact_mod_cast Mn zO hr):p:=h
abbrev nZ := @Int.lt_of_le_of_lt
abbrev uS := @Nat.le_of_lt_succ
abbrev Mn := @Nat.pow_lt_pow_right

def UB (a b:Int) (k:Nat):Hp:=hpL G0 [(200,wb (rA a b k)),(208,wb b),(216,⟨fa 4 .u64 (wi (qA a b k)),.ty 140⟩),(224,zB)]
def UC:Nat->Value:=tsL [(2,.pointer (some ⟨200,0,none⟩)),(3,.pointer (some ⟨208,0,none⟩)),(4,.pointer (some ⟨216,0,none⟩)),(5,.pointer (some ⟨224,0,none⟩))]
theorem UA (a b:Int) (Z8:0<=a) (ha:a<57896044618658097711785492504343953926634992332820282019728792003956564819968) (A9:0<b) (ju:b<57896044618658097711785492504343953926634992332820282019728792003956564819968) :
  Ret prog G0 194 #[wd a,wd b] (.tuple #[wd (a / b),wd (a%b)]):=by
 refine ck G0F func194 rfl call194 zS zS (by simp [ntmps194]) ?_;intro C hC bQ hY;have hup:=aif a b Z8 A9 zO zO;have Z9:=Ze a b;have fq:bU a<=255:=(pN 255 zO).2
 have cA:shN a b<256:=by
  have ea:uz a=a:=rr;have PT:=pN 256 (SO b).2;unfold shN;rw [ea];omega
 have ny:=U1 a b cA;generalize shN a b=N at *
 refine fO ?_;refine iW [206] ae ?_;intro Q hQ hP;simp [hC,hY];refine eX (QH a b 248 zO) zS (λ_ _=>rfl) oJ ?_;simp;refine hQ _ _ _ _ ?_;clear hQ hP Q;refine fO ?_;refine sH (f:=213) (rs:=[248,249]) (xs:=Ok b N) (bh:=#[.pointer (some ⟨248,0,none⟩),.pointer (some ⟨249,0,none⟩)]) zS ?_ ?_ (by simp [ntmps194]) UC (λi=>UB a b (N+1 - (i:Int)).toNat) 300 (N+1).toNat (by rw [IC];omega) ?_ ?_ ?_ ?_ ?_
 ·rw [hC];refine pD.cast (IterX.rn (λk=>if k=100 then 248 else if k=101 then 249 else k) G0F (λk hk=>cD zS hk) (rs:=[100,101]) ?_ ny) ga zS;refine ⟨λk hk=>?_,?_,?_,?_⟩
  ·have h1:¬k=100:=zO;have h2:¬k=101:=zO;have h3:¬k=200:=zO;have h4:¬k=208:=zO;have h5:¬k=216:=zO;have h6:¬k=224:=zO;have h8:¬k=248:=zO;have h9:¬k=249:=zO;simp [h1,h2,h3,h4,h5,h6,h8,h9,wHp]
  ·simp
  ·simp [wHp,wb,Blk.rn,aw,aA]
  ·simp
 ·intro x hx;simp only [Ok,aD] at hx;obtain ⟨i,_,rfl⟩:=hx;simp
 ·have e:=WI a b (N+1).toNat Z8 hup.1;refine dv _ 300 hC G0F (m0:=[]) bQ zO ?_ ?_ ?_
  ·exact fY
  ·simp [zB,wb,e.1,e.2,Jc,AE]
  ·simp
 ·simp [UB,dom]
 ·intro i hi t;refine tO ?_ t;simp [dom,UB]
 ·intro i x hi hx C1 l sR vl qS;have so:=hC;have je:C1.G=G0:=sR.trans hC;obtain ⟨n,hn⟩:∃ n:Nat,N - (i:Int)=n:=⟨(N - i).toNat,zO⟩
  rw [SH b N i hi,hn] at hx;have e1:(N+1 - (i:Int)).toNat=n+1:=zO;have e2:(N+1 - ((i+1:Nat):Int)).toNat=n:=zO;simp only [e1,e2];cases hx
  have hD:b*2^n<57896044618658097711785492504343953926634992332820282019728792003956564819968:=by
   have h1:=hup.2 zO;have h2:(2:Int)^n<=2^N.toNat:=by exact_mod_cast iF zO (by omega:n<=N.toNat)
   have h3:b*2^n<=b*2^N.toNat:=iG h2 zO;have h4:(2:Int)^(bU a).toNat<=2^255:=by exact_mod_cast iF zO (by omega:(bU a).toNat<=255)
   omega
  have hD0:0<b*2^n:=ki A9 (eZ _);have hM0:0<b*2^(n+1):=ki A9 (eZ _);have hA0:0<=rA a b (n+1):=cy _ zO
  have hA1:rA a b (n+1)<=a:=by
   have h1:=fy a (b*2^(n+1));have h2:0<=b*2^(n+1)*(a / (b*2^(n+1))):=cz zO (gQ Z8 zO);unfold rA;omega
  have szD:sz (b*2^n)=b*2^n:=LL (dh hD0) hD;have szA:sz (rA a b (n+1))=rA a b (n+1):=LL hA0 (nZ hA1 ha);obtain ⟨t,r,hr,JX⟩:∃ t r,r<64/\n=64*t+r:=⟨n / 64,n%64,zO,zO⟩
  have tq:((n:Int)).tdiv 64=t:=rO;have tm:((n:Int)).tmod 64=r:=rz;have t4:t<4:=zO;have t4':(t:Int)<4:=zO;have t0:(0:Int)<=t:=zO;have tb:Int.bmod (t:Int) 18446744073709551616=t:=bm zO zO;have t3:t<=3:=uS t4;have t3':(t:Int)<=3:=Int.le_of_lt_add_one t4';have m1:min r 64=r:=zO
  have m2:(2:Int)^r%18446744073709551616=2^r:=cP (dh (eZ _)) (by
   have:(2:Int)^r<2^64:=rV;exact this)
  have tc:=abe a b A9 n;replace hC:=je;replace hY:=qS;by_cases hle:b*2^n<=rA a b (n+1)
  ·have TO:gG (sz (b*2^n)) (sz (rA a b (n+1)))<=0:=by rw [szD,szA];unfold gG;split<;>(try split)<;>omega
   obtain ⟨s1,s2⟩:=tc.1 hle;have ju:=aiC (a / (b*2^(64*t+r+1))) t r hr;have mU:=OG (a / (b*2^(64*t+r+1))) t r;rw [<-JX] at ju mU;replace ju:jE .or .u64 (wi (qA a b (n+1)) t) (2^r)=wi (qA a b n) t:=by rw [s2];exact ju
   replace mU:∀ j,j≠t->wi (qA a b n) j=wi (qA a b (n+1)) j:=λj hj=>by rw [s2];exact mU j hr hj
   have hq:fa 4 .u64 (upd (wi (qA a b (n+1))) t (wi (qA a b n) t))=fa 4 .u64 (wi (qA a b n)):=zJ λj _=>by
    unfold upd;split
    ·rename_i h;rw [h]
    ·rename_i h;rw [mU j h]
   unfold UB;refine dy (k2 @bC.eq_1 @UC.eq_1) ?_;intro C2 oY Gx oZ;replace hC:C2.G=G0:=oY.trans so;replace hY:=oZ;refine dy (k17 @bC.eq_1 @UC.eq_1 @wb.eq_1 TO tq tm t4 t4' t0 t3 t3' tb m1 m2 @lr @AZ ju) ?_;refine dv [] 300 je G0F vl zO ?_ ?_ ?_
   ·simp
   ·simp [vh,aF,wb,zB,hq,s1]
   ·simp [wb,zB,hq,s1]
  ·have TO:¬gG (sz (b*2^n)) (sz (rA a b (n+1)))<=0:=by rw [szD,szA];unfold gG;split<;>(try split)<;>omega
   obtain ⟨s1,s2⟩:=tc.2 zO;unfold UB;refine dy (k2 @bC.eq_1 @UC.eq_1) ?_;intro C2 oY Gx oZ;replace hC:C2.G=G0:=oY.trans so;replace hY:=oZ;refine dy (k4 @bC.eq_1 @UC.eq_1 @wb.eq_1 TO) ?_;refine dv [] 300 je G0F vl zO ?_ ?_ ?_
   ·simp
   ·simp [vh,aF,wb,zB,s1,s2]
   ·simp [wb,zB,s1,s2]
 ·left
  refine ⟨by rw [IC],?_⟩;have e:(N+1 - ((N+1).toNat:Int)).toNat=0:=zO;have ed:=afS a b;rw [e];unfold UB UC;rw [ed.1,ed.2];refine dy (k3 @wb.eq_1 @Jc @zB.eq_1) ?_;exact eR results194
@[simp] theorem ash (a b:Int) (Z8:0<=a) (ha:a<57896044618658097711785492504343953926634992332820282019728792003956564819968) (A9:0<b) (ju:b<57896044618658097711785492504343953926634992332820282019728792003956564819968) (K:iQ) :
  cu prog G0 194 #[Value.agg #[.int .u64 (wi (a) 0),.int .u64 (wi (a) 1),.int .u64 (wi (a) 2),.int .u64 (wi (a) 3)],Value.agg #[.int .u64 (wi (b) 0),.int .u64 (wi (b) 1),.int .u64 (wi (b) 2),.int .u64 (wi (b) 3)]] K↔K (.tuple #[wd (a / b),wd (a%b)]):=aP G0W ae (UA a b Z8 ha A9 ju)
theorem wF {p:Prop} (h:p:=by rw [nf hb];unfold gG;split<;>(try split)<;>omega):p:=h
theorem rk {p:Prop} (h:p:=by rw [nf ha];unfold gG;split<;>(try split)<;>omega):p:=h
theorem kI {p:Prop} (h:p:=by unfold wr;omega):p:=h
theorem wh {p:Prop} (h:p:=by rw [nG];exact PU a b _):p:=h
theorem xu {p:Prop} (h:p:=by
 simp (disch:=omega) only [G8]
 rfl):p:=h
abbrev uY := @Int.fmod_eq_emod_of_nonneg
abbrev uO := @Int.ediv_le_self
theorem vy {P:Program} {G:Hp} {f:FuncId} {args:bV} {v:Value} (h:yP P G f args (.ret v)):Ret P G f args v:=⟨h.1 v rfl,h.2.1,h.2.2.1,h.2.2.2⟩
@[simp] theorem aug (n:Int) (K:iQ):cu prog G0 163 #[.bool true,.int .i64 n] K↔K (.tuple #[]):=aP G0W ae (vy (Yf n))
@[simp] theorem aui (z:Int) (K:iQ):cu prog G0 160 #[Value.agg #[.int .u64 (wi (z) 0),.int .u64 (wi (z) 1),.int .u64 (wi (z) 2),.int .u64 (wi (z) 3)],.bool false] K↔K (wd z):=aP G0W ae (vy (aip z))
def wr (z:Int):Prop:=-57896044618658097711785492504343953926634992332820282019728792003956564819968<=z/\z<57896044618658097711785492504343953926634992332820282019728792003956564819968
theorem nf {z:Int} (h:wr z):sz z=z:=afl h.1 h.2
theorem aft {z:Int} (h:wr z):ng z=decide (z<0):=by rw [Af,nf h]
theorem Bh {z:Int} (h:wr z) (h0:0<=z):ng z=false:=by rw [aft h];simp;exact h0
theorem ahw {z:Int} (h:wr z) (h0:z<0):ng z=true:=by rw [aft h];simp;exact h0
theorem Aa (z:Int) (h:wr z) (h1:z ≠ -57896044618658097711785492504343953926634992332820282019728792003956564819968):(!wi z 0==0||(!wi z 1==0||(!wi z 2==0||!wi z 3==9223372036854775808)))=true:=by
 refine aO λhn=>h1 ?_;simp at hn;obtain ⟨w0,w1,w2,w3⟩:=hn;rw [<-nf h,Zy,w0,w1,w2,w3];unfold ng;rw [w3];decide
theorem ZP {z:Int} (h:wr z) (h0:z≠0):(!wi z 0==0||(!wi z 1==0||(!wi z 2==0||!wi z 3==0)))=true:=OL z (by rw [nf h];exact h0)
theorem RT:i64 1:=zD
def lst:Int:=-57896044618658097711785492504343953926634992332820282019728792003956564819968

theorem Xe (a b:Int) (ha:wr a) (hb:wr b) (h0:0<b) (Z8:0<=a):Ret prog G0 177 #[wd a,wd b] (.tuple #[wd (a.fdiv b),wd (a.fmod b)]):=by
 refine ck G0F func177 rfl call177 zS zS (by simp [ntmps177]) ?_;intro C hC bQ hY;have hz:=ZP hb zO;have hn1:=Aa a ha zO;have hn2:=Aa b hb zO;have s1:¬gG (sz b) 0<0:=wF;have s2:¬gG (sz a) 0<0:=rk;have hbu:b<57896044618658097711785492504343953926634992332820282019728792003956564819968:=hb.2;have hau:a<57896044618658097711785492504343953926634992332820282019728792003956564819968:=ha.2;have e1:a.fdiv b=a / b:=iA a zO;have e2:a.fmod b=a%b:=uY a zO
 repeat' first|refine cM ?_|(refine g6 ?_;intro Q hQ hP;simp [hC,hY,hz,hn1,hn2,s1,s2,lsB,Z8,hau,h0,hbu];(first|refine cQ hQ ?_|refine hP _ _ ae λ_=>?_))|fail
 exact eR (k3 results177 e1 e2)
theorem Yp (m b:Int) (hb:0<b):(-(m+1)).fdiv b=-(m / b) - 1/\(-(m+1)).fmod b=b - 1 - m%b:=by
 have h1:=fy m b;have h2:=cy m (b:=b) zO;have h3:=cE m hb;have e:-(m+1)=(b - 1 - m%b)+b*(-(m / b) - 1):=by rw [lI,qj];omega
 rw [iA _ zO,uY _ zO];constructor
 ·rw [e,iD _ _ zO,fR zO zO];omega
 ·rw [e,uM,cP zO zO]
theorem Xd (m b:Int) (ha:wr (-(m+1))) (MR:-(m+1)≠lst) (hb:wr b) (h0:0<b) (L6:0<=m):Ret prog G0 177 #[wd (-(m+1)),wd b] (.tuple #[wd ((-(m+1)).fdiv b),wd ((-(m+1)).fmod b)]):=by
 refine ck G0F func177 rfl call177 zS zS (by simp [ntmps177]) ?_;intro C hC bQ hY;obtain ⟨d1,d2⟩:=Yp m b h0;rw [d1,d2];generalize ea:-(m+1)=a at *
 have hz:=ZP hb zO;have hn1:=Aa a ha MR;have hn2:=Aa b hb zO;have s1:¬gG (sz b) 0<0:=wF;have s2:gG (sz a) 0<0:=rk;have hbu:b<57896044618658097711785492504343953926634992332820282019728792003956564819968:=hb.2;have hmu:m<57896044618658097711785492504343953926634992332820282019728792003956564819968:=by have:=ha.1;unfold lst at MR;omega
 have hq0:0<=m / b:=gQ L6 zO;have nc:m / b<=m:=uO b L6;have hr0:0<=m%b:=cy m zO;have RS:m%b<b:=cE m h0;have em:-(a+1)=m:=zO
 have f1:(ng a==ng 1&&ng (a+1) != ng a)=false:=by
  rw [ahw ha zO,Bh (z:=1) kI zO];rfl
 have f2:(ng (a+1)&&ng m)=false:=by rw [Bh (z:=m) (by unfold wr;omega) L6];simp
 have f3:(ng (m / b)&&ng (-(m / b)))=false:=by rw [Bh (z:=m / b) (by unfold wr;omega) hq0];simp
 have f4:(ng (-(m / b)) != ng 1&&ng (-(m / b) - 1) != ng (-(m / b)))=false:=by
  rw [Bh (z:=1) kI zO,ahw (z:=-(m / b) - 1) kI zO];cases ng (-(m / b))<;>rfl
 have f5:(ng b != ng 1&&ng (b - 1) != ng b)=false:=by
  rw [Bh hb zO,Bh (z:=1) kI zO];rfl
 have f6:(ng (b - 1) != ng (m%b)&&ng (b - 1 - m%b) != ng (b - 1))=false:=by
  rw [Bh (z:=b - 1) (by unfold wr;have:=hb.2;omega) zO,Bh (z:=m%b) kI hr0];rfl
 have i1:=RT
 repeat' first|refine cM ?_|(refine g6 ?_;intro Q hQ hP;simp [hC,hY,hz,hn1,hn2,s1,s2,lsB,h0,hbu,L6,hmu,em,f1,f2,f3,f4,f5,f6,i1];(first|refine cQ hQ ?_|refine hP _ _ ae λ_=>?_))|fail
 exact eR results177
theorem G8 {α:Type} {f:Nat->α} {x k:Nat} {v:α} (h:k<x):upd f x v k=f k:=aj f v zO
theorem TE (a b:Int) (ha:wr a) (MR:a≠lst) (hb:wr b) (h0:0<b):Ret prog G0 177 #[wd a,wd b] (.tuple #[wd (a / b),wd (a%b)]):=by
 rw [<-iA a (dh h0),<-uY a (dh h0)];by_cases Z8:0<=a
 ·exact Xe a b ha hb h0 Z8
 ·obtain ⟨m,rfl⟩:∃ m,a=-(m+1):=⟨-a - 1,zO⟩
  exact Xd m b ha MR hb h0 zO
@[simp] theorem ah0 (a b:Int) (ha:wr a) (MR:a≠lst) (hb:wr b) (h0:0<b) (K:iQ):cu prog G0 177 #[Value.agg #[.int .u64 (wi (a) 0),.int .u64 (wi (a) 1),.int .u64 (wi (a) 2),.int .u64 (wi (a) 3)],Value.agg #[.int .u64 (wi (b) 0),.int .u64 (wi (b) 1),.int .u64 (wi (b) 2),.int .u64 (wi (b) 3)]] K↔K (.tuple #[wd (a / b),wd (a%b)]) :=
 aP G0W ae (TE a b ha MR hb h0)
def hp2 (a b:Int):Hp:=hpL G0 [(200,wb a),(208,wb b)]
theorem nG (a b:Int):rst (hp2 a b) [200,208]=hp2 a b:=kR G0F zS
theorem PU (a b:Int) (D:gA) (k:Nat) (c:Blk) (h:hp2 a b k=some c):c.ids D:=by
 rcases cB h with h|h
 ·simp at h;rcases h with ⟨_,rfl⟩|⟨_,rfl⟩<;>simp [wb]
 ·exact oT
theorem pJ (a b:Int) (x:Nat) (hx:300<=x):hp2 a b x=none:=by
 simp [hp2,(zO:¬x=200),(zO:¬x=208),(zO:100<=x)]
theorem OW (a b:Int) (ha:wr a) (MR:a≠lst) (hb:wr b) (h0:0<b):Fun prog G0 211 [.pointer (some ⟨200,0,none⟩),.pointer (some ⟨208,0,none⟩)].toArray (hp2 a b) [200,208] (.ret (wd (a / b)) []):=by
 refine pH (B:=300) G0F (λk hk=>cD zS hk) func211 rfl call211 ?_ ?_ ⟨cb zS,ah,zS,zS⟩ (by simp [ntmps211]) zO ?_ ?_
 ·rw [nG];simp [hp2,dom]
 ·exact wh
 ·rw [nG];exact pJ a b
 ·intro C hC bQ hY;rw [nG] at bQ |-
  repeat' first|refine cM ?_|(refine g6 ?_;intro Q hQ hP;simp [hC,hY,hp2,wb,ha,MR,hb,h0];(first|refine cQ hQ ?_|refine hP _ _ ae λ_=>?_))|fail
  refine ⟨.inr rfl,by simp [results211],λk hk=>?_⟩;have yZ:k<300:=aO λh=>hk (pJ a b k zO);exact xu
theorem Qs (a b:Int) (ha:wr a) (MR:a≠lst) (hb:wr b) (h0:0<b):Ret prog G0 202 #[wd a,wd b] (.tuple #[wd (a / b),.int .i64 0]):=by
 refine ck G0F func202 rfl call202 zS zS (by simp [ntmps202]) ?_;intro C hC bQ hY
 repeat' first|refine cM ?_|((first|refine gwR [157] ?_|refine gwD [157] ?_);intro Q hQ hP;(repeat first|simp [hC,hY]|refine eX (db:=hp2 a b) (Bm (λk hk=>cD zS hk) zS rfl zS (OW a b ha MR hb h0)) (by simp [hp2,wb]) (λk hk=>cD zS hk) trivial ?_);(first|refine cQ hQ ?_|refine hP _ _ ae λ_=>?_))|fail
 exact eR results202
@[simp] theorem asg (a b:Int) (ha:wr a) (MR:a≠lst) (hb:wr b) (h0:0<b) (K:iQ):cu prog G0 202 #[Value.agg #[.int .u64 (wi (a) 0),.int .u64 (wi (a) 1),.int .u64 (wi (a) 2),.int .u64 (wi (a) 3)],Value.agg #[.int .u64 (wi (b) 0),.int .u64 (wi (b) 1),.int .u64 (wi (b) 2),.int .u64 (wi (b) 3)]] K↔K (.tuple #[wd (a / b),.int .i64 0]) :=
 aP G0W ae (Qs a b ha MR hb h0)
theorem xm {p:Prop} (h:p:=by
 refine ⟨dD,by simp [ak];omega,λq b c h1 h2=>?_⟩;simp at h1 h2;rw [h1.2,h2.2]):p:=h
theorem C9 {p:Prop} (h:p:=by
 refine dv _ 300 hC G0F (m:=[(100,wb a)]) (m0:=[(100,wb a)]) bQ zO ?_ ?_ ?_
 ·exact fY
 ·simp [wb]
 ·simp [wb]):p:=h
theorem ado (n:Int):yP prog G0 205 #[.bool true,.int .i64 n] (.ret (.tuple #[])):=by
 refine tJ G0F func205 rfl call205 (λv h=>lU) zS (by simp [ntmps205]) ?_;intro C hC bQ hY
 repeat' (first|refine Vn ?_|(refine g6 ?_;intro Q hQ hP;simp [hC,hY];(first|refine cQ hQ ?_|refine hP _ _ ae λ_=>?_);clear hQ hP Q)|refine gwC ?_ ?_<;>intro hb<;>try (cases hb;done))
 exact ⟨.inl trivial,by simp [results205]⟩
@[simp] theorem aum (n:Int) (K:iQ):cu prog G0 205 #[.bool true,.int .i64 n] K↔K (.tuple #[]):=aP G0W ae (vy (ado n))
theorem Yc (z:Int):Ret prog G0 220 #[wd z] (.int .i64 (bU (uz z) / 2)):=by
 refine ck G0F func220 rfl call220 rfl zS (by simp [ntmps220]) ?_;intro C hC bQ hY;have b0:=qX z 0;have b1:=qX z 1;have b2:=qX z 2;have b3:=qX z 3;have k3:=Zi z;have k2:=Zh z;have k1:=Zg z;have k0:=Zf z;have m3:Int.bmod (192+bU (wi z 3)) 18446744073709551616=192+bU (wi z 3):=bm zO zO;have m2:Int.bmod (128+bU (wi z 2)) 18446744073709551616=128+bU (wi z 2):=bm zO zO;have m1:Int.bmod (64+bU (wi z 1)) 18446744073709551616=64+bU (wi z 1):=bm zO zO;have t3:(192+bU (wi z 3)).tdiv 2=(192+bU (wi z 3)) / 2:=nY zO;have t2:(128+bU (wi z 2)).tdiv 2=(128+bU (wi z 2)) / 2:=nY zO;have t1:(64+bU (wi z 1)).tdiv 2=(64+bU (wi z 1)) / 2:=nY zO;have t0:(bU (wi z 0)).tdiv 2=bU (wi z 0) / 2:=nY zO;have u3:Int.bmod ((192+bU (wi z 3)) / 2) 18446744073709551616=(192+bU (wi z 3)) / 2:=bm zO zO;have u2:Int.bmod ((128+bU (wi z 2)) / 2) 18446744073709551616=(128+bU (wi z 2)) / 2:=bm zO zO;have u1:Int.bmod ((64+bU (wi z 1)) / 2) 18446744073709551616=(64+bU (wi z 1)) / 2:=bm zO zO;have u0:Int.bmod (bU (wi z 0) / 2) 18446744073709551616=bU (wi z 0) / 2:=bm zO zO
 repeat' (first|refine cH ?_|refine dc ?_|refine Vn ?_|(refine g6 ?_;intro Q hQ hP;simp [hC,hY,eC,fi,m1,m2,m3,t0,t1,t2,t3,u0,u1,u2,u3];(first|refine cQ hQ ?_|refine hP _ _ ae λ_=>?_);clear hQ hP Q)|refine gwC ?_ ?_<;>intro hb<;>try (cases hb;done))
 all_goals
  refine ⟨.inr trivial,?_⟩;simp [results220]
  simp_all
@[simp] theorem aul (z:Int) (K:iQ):cu prog G0 220 #[Value.agg #[.int .u64 (wi (z) 0),.int .u64 (wi (z) 1),.int .u64 (wi (z) 2),.int .u64 (wi (z) 3)]] K↔K (.int .i64 (bU (uz z) / 2)):=aP G0W ae (Yc z)
theorem aaJ (a:Int) (k:Nat) (g5:100<=k):Fun prog G0 217 #[wd a] G0 [] (.new (.func (.func 219) #[] #[.pointer (some ⟨k,0,none⟩)]) [(k,wb a)]):=by
 have e0:rst G0 []=G0:=vA G0F [];refine Ih (B:=200) (λj=>if j=k then 200 else j) G0F (λ_ _=>rfl) func217 rfl call217 iT wE ?_ (by simp [ntmps217]) zO wz (λj hj=>?_) ?_ ?_ ?_ ?_
 ·exact xm
 ·rw [e0] at hj;have:=AM hj;rw [ab zO]
 ·simp [e0,dom]
 ·simp
 ·simp [wb,aF,aL,aR]
 ·intro C hC bQ hY;rw [e0]
  repeat' (first|refine Vn ?_|(refine g6 ?_;intro Q hQ hP;simp [hC,hY];(first|refine cQ hQ ?_|refine hP _ _ ae λ_=>?_);clear hQ hP Q)|refine gwC ?_ ?_<;>intro hb<;>try (cases hb;done))
  refine ⟨.inr trivial,?_⟩;simp [results217,ren,aT,aw,aA,wb];intro j hj hj2;have:=AM hj;omega
theorem aiD (t r j:Nat) (hr:r<64):wi (2^(64*t+r)) j=if j=t then 2^r else 0:=by
 by_cases h:j=t
 ·subst h;rw [ai rfl];unfold wi;rw [cC,Int.mul_ediv_cancel_left _ vL]
  exact cP (dh (eZ _)) (by
   have:(2:Int)^r<2^64:=rV;exact this)
 ·rw [ab h];have:=OG 0 t r j hr h;simp only [Int.zero_mul,Int.zero_add] at this;rw [this,AE]
theorem SG (t r:Nat) (ht:t<4) (hr:r<64):(#[.int .u64 0,.int .u64 0,.int .u64 0,.int .u64 0]:Array Value).setIfInBounds t (.int .u64 (2^r))=#[.int .u64 (wi (2^(64*t+r)) 0),.int .u64 (wi (2^(64*t+r)) 1),.int .u64 (wi (2^(64*t+r)) 2),.int .u64 (wi (2^(64*t+r)) 3)]:=by
 simp only [aiD _ _ _ hr];have:t=0\/t=1\/t=2\/t=3:=zO;rcases this with rfl|rfl|rfl|rfl<;>simp
def By (M:Int):List (Array Value):=(List.range (M+1).toNat).map λ(i:Nat)=>#[wd (2^(M - (i:Int)).toNat)]
theorem AQ (M:Int):(By M).length=(M+1).toNat:=by simp [By]
theorem Hr (M:Int) (i:Nat) (h:i<(M+1).toNat):(By M)[i]? = some #[wd (2^(M - (i:Int)).toNat)]:=by simp [By,h]
def aHp (a:Int):Hp:=hpL G0 [(100,wb a)]
def Rg (a M:Int) (l i:Nat):GS :=
 ⟨tsL [(0,.func (.yield l) #[] #[]),(1,.pointer (some ⟨100,0,none⟩)),(3,.int .i64 (M - i))],aHp a,300,i⟩
theorem afB (a:Int):pD prog G0 219 #[.pointer (some ⟨100,0,none⟩)] (aHp a) [100] (By (bU (uz a) / 2)):=by
 have e0:rst (aHp a) [100]=aHp a:=kR G0F zS;refine G2 (B:=200) (v:=.tuple #[]) G0F (λk hk=>cD zS hk) func219 rfl call219 ?_ ?_ (by simp [ntmps219]) zO ?_ ?_
 ·rw [e0];simp [aN,cp,aL,aR,dom,aHp]
 ·rw [e0];intro k c hk;rcases cB hk with h|h
  ·simp at h;rcases h with ⟨_,rfl⟩
   simp [wb,aF,aL,aR]
  ·exact oT
 ·rw [e0];intro x hx;simp [aHp,(zO:¬x=100),(zO:100<=x)]
 ·intro C l stop hC bQ hY;rw [e0] at bQ |-;have PT:=pN 256 (SO a).2;have hM:0<=bU (uz a) / 2/\bU (uz a) / 2<=128:=zO;have hlen:=AQ (bU (uz a) / 2)
  repeat' (first|refine Vn ?_|(refine g6 ?_;intro Q hQ hP;simp [hC,hY,aHp,wb];(first|refine cQ hQ ?_|refine hP _ _ ae λ_=>?_);clear hQ hP Q)|refine gwC ?_ ?_<;>intro hb<;>try (cases hb;done))
  generalize hMe:bU (uz a) / 2=M at *
  generalize yH:By M=xs at *
  refine jQ (min stop xs.length) (Rg a M l) ?_ ?_ ?_
  ·exact C9
  ·intro i hi;have hs:i<stop:=zO;have hq:(i != stop)=true:=aE;have hle:i<=stop:=zO;obtain ⟨n,hn⟩:∃ n:Nat,M - (i:Int)=n:=⟨(M - i).toNat,zO⟩
   have g1:(i:Int)<=M:=zO
   have hx:xs[i]? = some #[wd (2^n)]:=by
    rw [<-yH,Hr M i zO,hn];rfl
   simp only [ZJ] at hx;have g4:Int.bmod ((n:Int) - 1) 18446744073709551616=M - ((i+1:Nat):Int):=by rw [bm zO zO];omega
   obtain ⟨t,r,hr,JX⟩:∃ t r,r<64/\n=64*t+r:=⟨n / 64,n%64,zO,zO⟩
   have tq:((n:Int)).tdiv 64=t:=rO;have tm:((n:Int)).tmod 64=r:=rz;have t4:t<4:=zO;have t4':(t:Int)<4:=zO;have t0:(0:Int)<=t:=zO;have tb:Int.bmod (t:Int) 18446744073709551616=t:=bm zO zO;have t3:t<=3:=uS t4;have m1:min r 64=r:=zO
   have m2:(2:Int)^r%18446744073709551616=2^r:=cP (dh (eZ _)) (by
    have:(2:Int)^r<2^64:=rV;exact this)
   have Le:=SG t r t4 hr;rw [<-JX] at Le;unfold Rg
   repeat' (first|refine Vn ?_|(refine g6 ?_;intro Q hQ hP;simp [hC,hY,aHp,wb,hs,hq,hle,hn,g1,g4,hx,tq,tm,t4,t4',t0,tb,t3,m1,m2,Le];(first|refine cQ hQ ?_|refine hP _ _ ae λ_=>?_);clear hQ hP Q)|refine gwC ?_ ?_<;>intro hb<;>try (cases hb;done))
   exact C9
  ·by_cases h4:xs.length<=stop
   ·rw [nN h4];have g1:¬((xs.length:Int)<=M):=zO;unfold Rg
    repeat' (first|refine Vn ?_|(refine g6 ?_;intro Q hQ hP;simp [hC,hY,aHp,wb,g1];(first|refine cQ hQ ?_|refine hP _ _ ae λ_=>?_);clear hQ hP Q)|refine gwC ?_ ?_<;>intro hb<;>try (cases hb;done))
    refine ⟨.inl trivial,by simp [results219],?_⟩;show xs.length=_;omega
   ·rw [nX zO];obtain ⟨n,hn⟩:∃ n:Nat,M - (stop:Int)=n:=⟨(M - stop).toNat,zO⟩
    have g1:(stop:Int)<=M:=zO
    have hx:xs[stop]? = some #[wd (2^n)]:=by
     rw [<-yH,Hr M stop zO,hn];rfl
    simp only [ZJ] at hx;obtain ⟨t,r,hr,JX⟩:∃ t r,r<64/\n=64*t+r:=⟨n / 64,n%64,zO,zO⟩
    have tq:((n:Int)).tdiv 64=t:=rO;have tm:((n:Int)).tmod 64=r:=rz;have t4:t<4:=zO;have t4':(t:Int)<4:=zO;have t0:(0:Int)<=t:=zO;have tb:Int.bmod (t:Int) 18446744073709551616=t:=bm zO zO;have t3:t<=3:=uS t4;have m1:min r 64=r:=zO
    have m2:(2:Int)^r%18446744073709551616=2^r:=cP (dh (eZ _)) (by
     have:(2:Int)^r<2^64:=rV;exact this)
    have Le:=SG t r t4 hr;rw [<-JX] at Le;unfold Rg
    repeat' (first|refine Vn ?_|(refine g6 ?_;intro Q hQ hP;simp [hC,hY,aHp,wb,hn,g1,hx,tq,tm,t4,t4',t0,tb,t3,m1,m2,Le];(first|refine cQ hQ ?_|refine hP _ _ ae λ_=>?_);clear hQ hP Q)|refine gwC ?_ ?_<;>intro hb<;>try (cases hb;done))
    refine ⟨.inr trivial,by simp [results219],?_⟩;show stop+1=_;omega
theorem DY {p:Prop} (h:p:=by
 unfold UM
 repeat' first|refine cM ?_|(refine g6 ?_;intro Q hQ hP;simp [hC,hY,bC,UN];(first|refine cQ hQ ?_|refine hP _ _ ae λ_=>?_))|fail
 intro C2 oY Gx oZ;replace hC:C2.G=G0:=oY.trans so;replace hY:=oZ
 repeat' first|refine cM ?_|(refine g6 ?_;intro Q hQ hP;simp [hC,hY,bC,UN,wb,szt,htt,hm,TO];(first|refine cQ hQ ?_|refine hP _ _ ae λ_=>?_))|fail
 refine dv [] 300 je G0F vl zO ?_ ?_ ?_
 ·simp
 ·simp [wb]
 ·simp [wb]):p:=h
def rp (a:Int) (K:Nat):Nat->Int
 | 0=>0
 | i+1=>if (rp a K i+2^(K - 1 - i))*(rp a K i+2^(K - 1 - i))<=a then rp a K i+2^(K - 1 - i) else rp a K i
theorem QC (a:Int) (K:Nat) (h0:0<=a) (h:a<2^K*2^K):∀ i,i<=K->0<=rp a K i/\rp a K i*rp a K i<=a/\a<(rp a K i+2^(K - i))*(rp a K i+2^(K - i))
 | 0,_=>by simp [rp];exact ⟨h0,h⟩
 | i+1,hi=>by
  obtain ⟨h1,h2,h3⟩:=QC a K h0 h i zO;have e1:K - i=(K - 1 - i)+1:=zO;have e2:K - (i+1)=K - 1 - i:=zO;rw [e1,ly] at h3;rw [e2];have hp:=eZ (K - 1 - i);unfold rp;split
  ·rename_i hc;refine ⟨zO,hc,?_⟩;rw [Int.add_assoc,(zO:(2:Int)^(K - 1 - i)+2^(K - 1 - i)=2^(K - 1 - i)*2)];exact h3
  ·rename_i hc;exact ⟨h1,h2,zO⟩
def isq (a:Int):Int:=rp a (bU a / 2+1).toNat (bU a / 2+1).toNat
theorem Nh (a:Int) (h0:0<=a):a<2^(bU a / 2+1).toNat*2^(bU a / 2+1).toNat:=by
 rw [<-cC];by_cases h:a=0
 ·subst h;exact eZ _
 ·obtain ⟨k,hk,k1,k2⟩:=pw (x:=a) zO;refine uQ k2 ?_;rw [hk]
  exact_mod_cast iF zO zO
theorem sU (a:Int) (h0:0<=a):0<=isq a/\isq a*isq a<=a/\a<(isq a+1)*(isq a+1):=by
 have:=QC a (bU a / 2+1).toNat h0 (Nh a h0) (bU a / 2+1).toNat (aG _);simpa [isq] using this
theorem Zq {x y:Int} (hx:0<=x) (hy:0<=y) (h:x*x<y*y):x<y:=by
 refine aO λhn=>?_;have:y*y<=x*x:=cU zO zO hy hx;omega
theorem P6 {a r:Int} (h0:0<=r) (h1:r*r<=a) (h2:a<(r+1)*(r+1)):isq a=r:=by
 have ha:0<=a:=dq (cz h0 h0) h1;obtain ⟨s0,s1,s2⟩:=sU a ha;have h3:=Zq (x:=isq a) (y:=r+1) s0 zO zO;have h4:=Zq (x:=r) (y:=isq a+1) h0 zO zO;omega
theorem Zp {x:Int} (B:Int) (hx:0<=x) (hB:0<=B) (h:x*x<B*B):x<B:=Zq hx hB h
def UM (a r:Int):Hp:=hpL G0 [(200,wb a),(208,wb r)]
def UN:Nat->Value:=tsL [(1,.pointer (some ⟨200,0,none⟩)),(2,.pointer (some ⟨208,0,none⟩))]
theorem Qy (a:Int) (ha:wr a) (h0:0<=a):Ret prog G0 212 #[wd a] (wd (isq a)):=by
 refine ck G0F func212 rfl call212 zS zS (by simp [ntmps212]) ?_;intro C hC bQ hY;have s1:0<=gG (sz a) 0:=rk;have PT:=pN 255 ha.2;have ny:=afB a;have eu:uz a=a:=by unfold uz;have:=ha.2;omega
 rw [eu] at ny;have hinv:=QC a (bU a / 2+1).toNat h0 (Nh a h0);have arn:isq a=rp a (bU a / 2+1).toNat (bU a / 2+1).toNat:=rfl;have hM:0<=bU a / 2/\bU a / 2<=127:=zO;generalize bU a / 2=M at *
 repeat' first|refine cM ?_|(refine g6 ?_;intro Q hQ hP;simp [hC,hY,s1];(first|refine cQ hQ ?_|refine hP _ _ ae λ_=>?_))|fail
 refine iW [217] ae ?_;intro Q hQ hP;simp [hC,hY];refine eX (aaJ a 256 zO) zS (λ_ _=>rfl) oJ ?_;simp;refine hQ _ _ _ _ ?_;clear hQ hP Q
 repeat' first|refine cM ?_|(refine g6 ?_;intro Q hQ hP;simp [hC,hY];(first|refine cQ hQ ?_|refine hP _ _ ae λ_=>?_))|fail
 generalize hK:(M+1).toNat=K at *
 refine sH (f:=219) (rs:=[256]) (xs:=By M) (bh:=#[.pointer (some ⟨256,0,none⟩)]) zS ?_ ?_ (by simp [ntmps212]) UN (λi=>UM a (rp a K i)) 300 K (by rw [AQ];omega) ?_ ?_ ?_ ?_ ?_
 ·rw [hC];refine pD.cast (IterX.rn (λk=>if k=100 then 256 else k) G0F (λk hk=>cD zS hk) (rs:=[100]) ?_ ny) ga zS;refine ⟨λk hk=>?_,?_,?_,?_⟩
  ·simp [aHp,(zO:¬k=100),(zO:¬k=200),(zO:¬k=208),(zO:¬k=256)]
  ·simp
  ·simp [aHp,wb,Blk.rn,aw,aA]
  ·simp
 ·intro x hx;simp only [By,aD] at hx;obtain ⟨i,_,rfl⟩:=hx;simp
 ·refine dv _ 300 hC G0F (m0:=[]) bQ zO ?_ ?_ ?_
  ·exact fY
  ·simp [wb,rp,AE]
  ·simp
 ·simp [UM,dom]
 ·intro i hi t;refine tO ?_ t;simp [dom,UM]
 ·intro i x hi hx C1 l sR vl qS;have so:=hC;have je:C1.G=G0:=sR.trans hC;obtain ⟨n,hn⟩:∃ n:Nat,M - (i:Int)=n:=⟨(M - i).toNat,zO⟩
  rw [Hr M i zO,hn] at hx;cases hx;obtain ⟨r0,r1,r2⟩:=hinv i zO;have en:K - 1 - i=n:=zO
  have Gz:rp a K (i+1)=if (rp a K i+2^n)*(rp a K i+2^n)<=a then rp a K i+2^n else rp a K i:=by
   rw [rp,en]
  generalize rp a K i=r at *
  have hau:=ha.2;have hr:r<340282366920938463463374607431768211456:=Zp _ r0 zD zO;have hn2:(2:Int)^n<=2^127:=by exact_mod_cast iF zO (by omega:n<=127)
  have hn0:=eZ n;have t0:0<=r+2^n:=zO;have t1:r+2^n<680564733841876926926749214863536422912:=zO;have szt:sz (r+2^n)=r+2^n:=LL t0 (Int.lt_trans t1 zD);have tt0:0<=(r+2^n)*(r+2^n):=cz t0 t0
  have hmul:Ae (r+2^n) (r+2^n)=decide (¬((r+2^n)*(r+2^n)<57896044618658097711785492504343953926634992332820282019728792003956564819968)):=by
   unfold Ae;rw [szt];congr 1;exact propext ⟨λh1 h2=>h1 ⟨dq zD tt0,h2⟩,λh1 h2=>h1 h2.2⟩
  have sza:sz a=a:=nf ha;replace hC:=je;replace hY:=qS;simp only [Gz];generalize htt:(r+2^n)*(r+2^n)=T at *
  by_cases Lc:T<57896044618658097711785492504343953926634992332820282019728792003956564819968
  ·have hm:Ae (r+2^n) (r+2^n)=false:=by rw [hmul];simp [Lc]
   have szT:sz T=T:=LL tt0 Lc;by_cases hle:T<=a
   ·have TO:gG (sz T) (sz a)<=0:=by rw [szT,sza];unfold gG;split<;>(try split)<;>omega
    rw [ai hle];exact DY
   ·have TO:¬gG (sz T) (sz a)<=0:=by rw [szT,sza];unfold gG;split<;>(try split)<;>omega
    rw [ab hle];exact DY
  ·have hm:Ae (r+2^n) (r+2^n)=true:=by rw [hmul];simp only [Lc,not_false_eq_true,decide_true]
   have hle:¬T<=a:=λh=>Lc (nZ h hau);rw [ab hle];unfold UM
   repeat' first|refine cM ?_|(refine g6 ?_;intro Q hQ hP;simp [hC,hY,bC,UN];(first|refine cQ hQ ?_|refine hP _ _ ae λ_=>?_))|fail
   intro C2 oY Gx oZ;replace hC:C2.G=G0:=oY.trans so;replace hY:=oZ
   repeat' first|refine cM ?_|(refine g6 ?_;intro Q hQ hP;simp [hC,hY,bC,UN,wb,szt,htt,hm];(first|refine cQ hQ ?_|refine hP _ _ ae λ_=>?_))|fail
   refine dv [] 300 je G0F vl zO ?_ ?_ ?_
   ·simp
   ·simp [wb]
   ·simp [wb]
 ·left
  refine ⟨by rw [AQ];omega,?_⟩;rw [<-arn];unfold UM UN
  repeat' first|refine cM ?_|(refine g6 ?_;intro Q hQ hP;simp [hC,hY,wb];(first|refine cQ hQ ?_|refine hP _ _ ae λ_=>?_))|fail
  exact eR results212
@[simp] theorem aso (a:Int) (ha:wr a) (h0:0<=a) (K:iQ):cu prog G0 212 #[Value.agg #[.int .u64 (wi (a) 0),.int .u64 (wi (a) 1),.int .u64 (wi (a) 2),.int .u64 (wi (a) 3)]] K↔K (wd (isq a)):=aP G0W ae (Qy a ha h0)
theorem Yq (a:Int):Ret prog G0 203 #[wd a] (wd (a+1)):=by
 refine ck G0F func203 rfl call203 zS zS (by simp [ntmps203]) ?_;intro C hC bQ hY;have i1:=RT
 repeat' first|refine cM ?_|(refine g6 ?_;intro Q hQ hP;simp [hC,hY,i1];(first|refine cQ hQ ?_|refine hP _ _ ae λ_=>?_))|fail
 exact eR results203
@[simp] theorem aun (a:Int) (K:iQ):cu prog G0 203 #[Value.agg #[.int .u64 (wi (a) 0),.int .u64 (wi (a) 1),.int .u64 (wi (a) 2),.int .u64 (wi (a) 3)]] K↔K (wd (a+1)):=aP G0W ae (Yq a)
def hp1 (a:Int):Hp:=hpL G0 [(200,wb a)]
theorem ahe (a:Int) (ha:wr a) (h0:0<=a):isq a<340282366920938463463374607431768211456/\wr (isq a):=by
 obtain ⟨h1,h2,h3⟩:=sU a h0;have hau:=ha.2;have h4:=Zp 340282366920938463463374607431768211456 h1 zD zO;exact ⟨h4,dq zD h1,Int.lt_trans h4 zD⟩
theorem WO {a b:Int} (ha:wr a) (h0:0<=a) (hb:0<b):wr (a / b)/\0<=a / b:=by
 have h1:0<=a / b:=gQ h0 zO;exact ⟨⟨dq zD h1,nZ (uO b h0) ha.2⟩,h1⟩
theorem X8 {a:Int} (h0:0<=a):a≠lst:=λe=>by rw [e] at h0;exact absurd h0 zD
theorem ahC (a b:Int) (ha:wr a) (hb:wr b) (h0:0<=a) (A9:0<b):Ret prog G0 204 #[wd a,wd b] (wd (isq (a / b))):=by
 refine ck G0F func204 rfl call204 zS zS (by simp [ntmps204]) ?_;intro C hC bQ hY;have hz:=ZP hb zO;have s1:0<=gG (sz a) 0:=rk;have s2:0<gG (sz b) 0:=wF;obtain ⟨d1,d2⟩:=WO ha h0 A9;have hl:=X8 h0
 repeat' first|refine cM ?_|(refine g6 ?_;intro Q hQ hP;simp [hC,hY,hz,s1,s2,ha,hb,A9,hl,d1,d2];(first|refine cQ hQ ?_|refine hP _ _ ae λ_=>?_))|fail
 exact eR results204
@[simp] theorem rof (a b:Int) (ha:wr a) (hb:wr b) (h0:0<=a) (A9:0<b) (K:iQ):cu prog G0 204 #[Value.agg #[.int .u64 (wi (a) 0),.int .u64 (wi (a) 1),.int .u64 (wi (a) 2),.int .u64 (wi (a) 3)],Value.agg #[.int .u64 (wi (b) 0),.int .u64 (wi (b) 1),.int .u64 (wi (b) 2),.int .u64 (wi (b) 3)]] K↔K (wd (isq (a / b))):=aP G0W ae (ahC a b ha hb h0 A9)
theorem Y5 (a b:Int) (ha:wr a) (hb:wr b) (h0:0<=a) (A9:0<b):Fun prog G0 201 [.pointer (some ⟨200,0,none⟩),.pointer (some ⟨208,0,none⟩)].toArray (hp2 a b) [200,208] (.ret (wd ((isq (a / b)+1) / 2)) []):=by
 refine pH (B:=300) G0F (λk hk=>cD zS hk) func201 rfl call201 ?_ ?_ ⟨cb zS,ah,zS,zS⟩ (by simp [ntmps201]) zO ?_ ?_
 ·rw [nG];simp [hp2,dom]
 ·exact wh
 ·rw [nG];exact pJ a b
 ·intro C hC bQ hY;rw [nG] at bQ |-;obtain ⟨d1,d2⟩:=WO ha h0 A9;obtain ⟨q0,q1⟩:=ahe _ d1 d2;have q2:=(sU _ d2).1;have w2:wr 2:=kI;have w1:wr (isq (a / b)+1):=⟨dq zD (by omega:0<=isq (a / b)+1),zO⟩
  have wl:isq (a / b)+1≠lst:=X8 zO;have i2:i64 2:=zD
  repeat' first|refine cM ?_|(refine g6 ?_;intro Q hQ hP;simp [hC,hY,hp2,wb,ha,hb,h0,A9,w1,wl,w2,i2];(first|refine cQ hQ ?_|refine hP _ _ ae λ_=>?_))|fail
  refine ⟨.inr rfl,by simp [results201],λk hk=>?_⟩;have yZ:k<300:=aO λh=>hk (pJ a _ k zO);exact xu
theorem N5 (a b:Int) (ha:wr a) (hb:wr b) (h0:0<=a) (A9:0<b):Ret prog G0 191 #[wd a,wd b] (.tuple #[wd ((isq (a / b)+1) / 2),.int .i64 0]):=by
 refine ck G0F func191 rfl call191 zS zS (by simp [ntmps191]) ?_;intro C hC bQ hY
 repeat' first|refine cM ?_|((first|refine gwR [200] ?_|refine gwD [200] ?_);intro Q hQ hP;(repeat first|simp [hC,hY]|refine eX (db:=hp2 a b) (UR (λk hk=>cD zS hk) zS rfl zS (Y5 a b ha hb h0 A9)) (by simp [hp2,wb]) (λk hk=>cD zS hk) trivial ?_);(first|refine cQ hQ ?_|refine hP _ _ ae λ_=>?_))|fail
 exact eR (k2 results191 @AE)
theorem Lf {n:Int} (h:i64 n):wr n:=by unfold i64 at h;unfold wr;omega
end Go.Gy
namespace Go.Gy
open Go Go.RowKit Go.Proofs
end Go.Gy
namespace Go.Gy
open Go Go.RowKit Go.Proofs Go.Proofs.Tryz
theorem mw {p:Prop} (h:p:=by
 intro k b c h1 h2;simp at h1 h2;rw [h1.2,h2.2]):p:=h
def lmB:Blk:=⟨#[.int .i64 (-2097152),.int .i64 2097152,.int .i64 1,.int .i64 2097152,.int .i64 1,.int .i64 1048576,.int .i64 1,.int .i64 1024,.int .i64 (-2097152),.int .i64 2097152,.int .i64 0,.int .i64 13194139533312],.ty 197⟩
def G1:Hp:=hpL G0 [(2,lmB)]
theorem G1F:ct G1:=λk b h=>by
 rcases cB h with h|h
 ·simp at h;obtain ⟨rfl,rfl⟩:=h;exact ⟨zO,by simp [lmB]⟩
 ·exact G0F k b h
@[simp] theorem yN (k:Nat) (h:100<=k):G1 k=none:=by
 cases hb:G1 k with
 | none=>rfl
 | some b=>have:=(G1F k b hb).1;omega
@[simp] theorem xU:G1 2=some lmB:=by simp [G1]
theorem VM {k:Nat} (h:dom G1 k):k<100:=by
 refine aO λhk=>?_;exact h (yN k zO)
theorem xT (D:gA) (k:Nat) (b:Blk) (h:G1 k=some b):b.ids D:=Blk.flat_ids ((G1F k b h).2)
theorem G1W:∃ W,GOK G1 W:=⟨{ (default:World) with heap:=Array.ofFn (n:=100) λk=>match G1 k.1 with|some b=>b.obj0|none=>.cells #[] 0 (0,0) },λk b h=>by
 have hk:=(G1F k b h).1;simp [hk,h]⟩
theorem Gr (W:World) (h:GOK G1 W):GOK G0 W:=λk b hk=>h k b (by
 have h0:¬k=2:=λe=>by subst e;simp [G0,G0L] at hk
 simp [G1,h0,hk])

@[simp] theorem ax7 (n:Int) (h:i64 n) (K:iQ):cu prog G1 162 #[.int .i64 n] K↔K (wd n):=aP G1W ae ((SQ n h).up Gr)
@[simp] theorem auS (a b:Int) (K:iQ):cu prog G1 161 #[Value.agg #[.int .u64 (wi (a) 0),.int .u64 (wi (a) 1),.int .u64 (wi (a) 2),.int .u64 (wi (a) 3)],Value.agg #[.int .u64 (wi (b) 0),.int .u64 (wi (b) 1),.int .u64 (wi (b) 2),.int .u64 (wi (b) 3)]] K↔K (.tuple #[wd (sz a*sz b),.bool (Ae a b)]):=aP G1W ae ((OJ a b).up Gr)
@[simp] theorem auR (z:Int) (K:iQ):cu prog G1 164 #[Value.agg #[.int .u64 (wi (z) 0),.int .u64 (wi (z) 1),.int .u64 (wi (z) 2),.int .u64 (wi (z) 3)]] K↔K (.tuple #[.int .i64 (if i64 (sz z) then sz z else 0),.bool (decide (i64 (sz z)))]):=aP G1W ae ((OH z).up Gr)
@[simp] theorem asm (a b:Int) (ha:wr a) (hb:wr b) (h0:0<=a) (A9:0<b) (K:iQ):cu prog G1 191 #[Value.agg #[.int .u64 (wi (a) 0),.int .u64 (wi (a) 1),.int .u64 (wi (a) 2),.int .u64 (wi (a) 3)],Value.agg #[.int .u64 (wi (b) 0),.int .u64 (wi (b) 1),.int .u64 (wi (b) 2),.int .u64 (wi (b) 3)]] K↔K (.tuple #[wd ((isq (a / b)+1) / 2),.int .i64 0]):=aP G1W ae ((N5 a b ha hb h0 A9).up Gr)
theorem Ss (n:Int):yP prog G1 188 #[.bool true,.int .i64 n] (.ret (.tuple #[])):=by
 refine tJ G1F func188 rfl call188 (λv h=>lU) zS (by simp [ntmps188]) ?_;intro C hC bQ hY
 repeat' (first|refine Vn ?_|(refine g6 ?_;intro Q hQ hP;simp [hC,hY];(first|refine cQ hQ ?_|refine hP _ _ ae λ_=>?_);clear hQ hP Q)|refine gwC ?_ ?_<;>intro hb<;>try (cases hb;done))
 exact ⟨.inl trivial,by simp [results188]⟩
def Tn:Array Value:=#[.pointer (some ⟨100000,0,none⟩)]
def hpP (n:Int):Hp:=hpL G1 [(100000,eB n)]
theorem zX (n:Int):rst (hpP n) [100000]=hpP n:=kR G1F zS
theorem abT (n:Int) (k:Nat) (b:Blk) (D:gA) (h:hpP n k=some b):b.ids D:=by
 rcases cB h with h|h
 ·simp at h;rcases h with ⟨_,rfl⟩
  simp [eB]
 ·exact xT _ _ _ h
@[simp] theorem acQ {dst:Option Tmp} {x:Operand} {T:TypeId} {ps:String} {af:Array Edge} {g:Option (Nat×Bool)} {V:XV} {yc nk:Nat} {ts:eM} {hp:Hp} {C:Eff->Prop} (h:ifE (gev ts x)=true) (hx:okX ts hp x) :
  opX prog G1 V yc ⟨dst,.typeAssert x 20 35 false,T,ps,af,g⟩ ts hp nk C↔C (val (ifN (gev ts x)) []):=by
 exact Dm
theorem anl:Array.replicate 6 undef=#[undef,undef,undef,undef,undef,undef]:=rfl
theorem asf (n:Int):RecF prog G1 187 Tn (hpP 0) [100000] (erV n) [(100000,eB n)]:=by
 refine ⟨⟨_,func187⟩,call187,?_,?_⟩
 ·refine KQ (k:=1) func187 rfl λargs c₀ cs W hk hu=>?_
  obtain ⟨p0,rfl⟩:∃ p0,args=#[p0]:=by
   rcases args with ⟨l⟩
   match l,hk with
   | [a],_=>exact ⟨a,rfl⟩
  have hn:f187.ntmps=7:=ntmps187;refine wpSIn_seq (wpSIn_region ?_);simp [wpOpsSIn,List.range,List.range.loop,go_sem,recoverD,hu,hn,anl];refine wpSIn_seq (wpSIn_region ?_);simp [wpOpsSIn,List.range,List.range.loop,go_sem,Ny];refine wpSIn_cond (t:=false) (by simp [Act.eval]) ?_;refine wpSIn_of_wpIn rfl (wpIn_skip ?_);exact ⟨.inl rfl,rfl,rfl,rfl,.tuple #[],by simp [results,results187,go_sem]⟩
 ·refine AU (B:=200000) (A:=#[.pointer (some ⟨100000,0,none⟩),erV n,erV n,undef,undef,undef,undef]) G1F (λk hk=>cD zS hk) func187 rfl (by simp [ntmps187]) ?_ ?_ ?_ ?_ ?_ ?_ zO ?_ ?_
  ·rw [zX];simp [hpP,dom]
  ·intro r c₀ cs W Q hu hQ;have hrn:∀ v,bz v=true->ren r v=v:=λv hv=>bM hv;simp only [ff,bJ,dt,Tn] at hQ |-;generalize ren r (.pointer (some ⟨100000,0,none⟩))=p0 at hQ |-;simp only [hrn (erV n) rfl,ir] at hQ;have hn:f187.ntmps=7:=ntmps187;simp [wpOpsSIn,List.range,List.range.loop,go_sem,recoverD,hu,Ux,erV,hn,anl];exact hQ
  ·rw [zX];exact λk b h=>abT 0 k b _ h
  ·rw [zX];simp [hpP,dom]
  ·exact mw
  ·simp [eB]
  ·rw [zX];exact λx hx=>by simp [hpP,(zO:¬x=100000),(zO:100<=x)]
  ·intro C hC bQ hY;rw [zX]
   repeat' (first|refine Vn ?_|(refine g6 ?_;intro Q hQ hP;simp [hC,hY,hpP,eB];(first|refine cQ hQ ?_|refine hP _ _ ae λ_=>?_);clear hQ hP Q)|refine gwC ?_ ?_<;>intro hb<;>try (cases hb;done))
   refine ⟨.inl trivial,by simp [results187],λk hk=>?_⟩;simp [eB,hpP]
theorem UE {g:FuncId} {mP:List Value} {hp:Hp} {rs:List Nat} {ws:bS} (hG:∀ k,k<100->hp k=G1 k) (Gz:∀ k∈rs,k<100000) (hc:mP.isEmpty=false) (tk:mP.all da=true)
  (h:Fun prog G1 g mP.toArray hp rs (.ret (.tuple #[]) ws)) :
  Fun prog G1 168 #[.func (.func g) #[] mP.toArray] hp rs (.ret (.int .i64 0) ws):=by
 have yA:∀ x∈mP,aR (dom (rst hp rs)) x:=λx hx=>(jF (dL.1 tk x hx)).1 (h.ids x cG)
 have HP:∀ x,100000<=x->rst hp rs x=none:=λx hx=>by
  exact wU
 refine K0 (out:=.ret (.int .i64 0) ws) (B:=100000) (B1:=100008) (id:=1) (t:=3) (ts1:=upd (λt=>[Value.func (.func g) #[] mP.toArray][t]?.getD undef) 2 (th 100000))
  (hp1:=upd (rst hp rs) 100000 (some (eB 0))) Tn G1F hG func168 rfl (by simp [ntmps168]) call168 ⟨_,_,_,_,asf 0⟩ ?_ h.closed ?_ (by simp [ntmps168]) zO HP ?_ ?_ ?_ ?_ ?_ ?_
 ·simpa using yA
 ·exact ⟨cb zS,h.fits.2⟩
 ·intro C hC bQ hY
  repeat' (first|refine Vn ?_|(refine g6 ?_;intro Q hQ hP;simp [hC,hY];(first|refine cQ hQ ?_|refine hP _ _ ae λ_=>?_);clear hQ hP Q)|refine gwC ?_ ?_<;>intro hb<;>try (cases hb;done))
  exact ⟨eG,rfl⟩
 ·intro k hk;have h1:¬k=100000:=λe=>hk (HP k zO);simp [h1]
 ·simp [okT,Tn]
 ·simp [Tn]
 ·simp [Tn]
 ·intro C d hC bQ hY;refine te ?_;refine iW [] ae ?_;intro Q hQ hP;simp [hC,hY,hc,tk];have nz:∀ k∈ak ws,k<100000:=λk hk=>Gz k (h.fits.2.1 k hk).1;have mN:(100000:Nat)∉ak ws:=λhm=>oB
  have w1:bW (upd (rst hp rs) 100000 (some (eB 0))) ws 100000=some (eB 0):=by
   rw [dw mN];simp
  refine eX (db:=hp) h (λk hk=>?_) hG trivial ?_
  ·have:=Gz k hk;simp [rst,hk,(zO:¬k=100000)]
  simp only [eB] at w1;simp [w1,eB];refine hQ _ _ _ _ ?_
  repeat' (first|refine Vn ?_|(refine g6 ?_;intro Q hQ hP;simp [hC,hY,w1,eB];(first|refine cQ hQ ?_|refine hP _ _ ae λ_=>?_);clear hQ hP Q)|refine gwC ?_ ?_<;>intro hb<;>try (cases hb;done))
  refine ⟨.inr rfl,by simp [results168],λk hk=>?_⟩;have h1:¬k=100000:=λe=>hk (HP k zO);rw [nK mN];simp [h1]
end Go.Gy
namespace Go.Gy
open Go Go.RowKit
theorem E4 {p:Prop} (h:p:=by
 rw [Z0];obtain ⟨y,hy,rfl⟩:=dA.1 hx;exact qV (λk hk=>h.dom hk) (ids y hy)):p:=h
section
variable {P:Program} {G G':Hp}
structure LOd (G:Hp) (m:bS) (B:Nat):Prop where
 big:∀ p∈m,100<=p.1/\p.1<B
 one:(ak m).Nodup
 ids:∀ p∈m,p.2.ids (dom (hpL G m))
theorem LOk.sub' {m:bS} (h1:(ak m).Nodup) (k:Nat) (hk:k∈ak m):dom (hpL G m) k:=by
 obtain ⟨p,hp,rfl⟩:=aI.1 hk;unfold dom;rw [LOk.at h1 p hp];simp
theorem LOd.low {m:bS} {B:Nat} (h:LOd G m B):∀ k,k<100->hpL G m k=G k:=λ_ hk=>cD (λp hp=>(h.big p hp).1) hk
theorem LOd.sub {m:bS} {B:Nat} (h:LOd G m B) (k:Nat) (hk:k∈ak m):dom (hpL G m) k:=LOk.sub' h.one k hk
theorem LOd.closed {m:bS} {B:Nat} (cK:ct G) (h:LOd G m B) (k:Nat) (b:Blk) (hk:hpL G m k=some b):b.ids (dom (hpL G m)):=by
 rcases cB hk with h1|h1
 ·exact h.ids (k,b) h1
 ·exact Blk.flat_ids (cK k b h1).2
theorem LOd.free {m:bS} {B:Nat} (cK:ct G) (hB:100<=B) (h:LOd G m B) (x:Nat) (hx:B<=x):hpL G m x=none:=by
 exact FT
theorem qR {f:FuncId} {fn:Func} {c:Code} {args:bV} {m:bS} {v:Value} {ws:bS} {B:Nat} (cK:ct G) (hf:P.funcs[f]? = some fn) (hb:fn.body=some c) (eP:∀ a w,(callFunc f a).run P w=.ok (.enter f a) w)
  (hm:LOk m B) (ha:∀ x∈args,aN (dom (hpL G m)) x) (hv:aN (λk=>k∈ak m) v) (hw:∀ p∈ws,p.1∈ak m/\p.2.ids (λk=>k∈ak m)) (hw1:∀ k b c,(k,b)∈ws->(k,c)∈ws->b=c) (hn:args.size<=fn.ntmps) (hB:100<=B)
  (h:∀ C:Ctx,C.G=G->C.hp0=hpL G m->C.Y=none->GW P C fn.ntmps [] none c ⟨λt=>args.getD t undef,hpL G m,B,0⟩ (ah6 P fn (hpL G m) (.ret v ws))):Fun P G f args (hpL G m) (ak m) (.ret v ws):=by
 have e:=LOk.rst (m:=m) cK;refine pH (B:=B) cK hm.low hf hb eP (by rw [e];exact ha) mj ⟨CM,λk hk=>?_,hw1,λp hp=>?_⟩ hn hB lW rP
 ·exact C6
 ·exact Cn
theorem jN {f:FuncId} {fn:Func} {c:Code} {bh:bV} {m:bS} {xs:List (Array Value)} {B:Nat} {v:Value} (cK:ct G) (hf:P.funcs[f]? = some fn) (hb:fn.body=some c) (eP:∀ a w,(callFunc f a).run P w=.ok (.enter f a) w)
  (hm:LOd G m B) (ha:∀ x∈bh,da x=true/\aN (λk=>k∈ak m) x) (hn:bh.size+1<=fn.ntmps) (hB:100<=B)
  (h:∀ (C:Ctx) (l stop:Nat),C.G=G->C.hp0=hpL G m->C.Y=some ⟨l,xs,stop,none,none⟩->GW P C fn.ntmps [] none c ⟨λt=>(#[Value.func (.yield l) #[] #[]]++bh).getD t undef,hpL G m,B,0⟩
   (λe s=>(e=.normal\/e=.ret)/\qa P fn.results.toList s.ts s.hp=some v/\s.yc=min (stop+1) xs.length/\∀ k,dom (hpL G m) k->s.hp k=hpL G m k)):IterK P G f bh (hpL G m) (ak m) xs:=by
 exact Dk
theorem iK {f:FuncId} {fn:Func} {c:Code} {args:bV} {m:bS} {R:AI} {B:Nat} (cK:ct G) (hf:P.funcs[f]? = some fn) (hb:fn.body=some c) (eP:∀ a w,(callFunc f a).run P w=.ok (.enter f a) w)
  (hm:LOk m B) (ha:∀ x∈args,aN (dom (hpL G m)) x)
  (fp:∀ v ns,R v ns->aN (cJ (dom (hpL G m)) ns) v/\(∀ p∈ns,B<=p.1/\p.2.ids (cJ (dom (hpL G m)) ns))/\(∀ k b c,(k,b)∈ns->(k,c)∈ns->b=c))
  (hn:args.size<=fn.ntmps) (hB:100<=B)
  (h:∀ C:Ctx,C.G=G->C.hp0=hpL G m->C.Y=none->GW P C fn.ntmps [] none c ⟨λt=>args.getD t undef,hpL G m,B,0⟩ λe s=>(e=.normal\/e=.ret)/\(∀ k,dom (hpL G m) k->s.hp k=hpL G m k) /\
   ∃ v ns ρ,R v ns/\(∀ k,k<B->ρ k=k)/\(∀ p∈ns,B<=ρ p.1)/\(∀ p∈ns,∀ q∈ns,ρ p.1=ρ q.1->p.1=q.1)/\qa P fn.results.toList s.ts s.hp=some (ren ρ v)/\∀ p∈ns,s.hp (ρ p.1)=some (p.2.rn ρ)):FunS P G f args (hpL G m) (ak m) R:=by
 have e:=LOk.rst (m:=m) cK
 have cA:∀ k,dom (hpL G m) k->k<B:=λk hk=>by
  refine aO λh1=>hk (hm.free cK hB k zO)
 refine Sc (B:=B) cK hm.low hf hb eP (by rw [e];exact ha) mj (λv ns hR=>?_) hn hB lW (λC h1 h2 h3=>?_)
 ·rw [e];obtain ⟨f1,f2,f3⟩:=fp v ns hR;refine ⟨f1,λk hk=>?_,f3,λp hp=>(f2 p hp).2⟩;exact F4
 ·exact Dp
structure MvG (G G':Hp) (m m':bS) (ρ:cI):Prop where
 gf:ct G
 gf':ct G'
 ok:∃ B,LOk m B
 ok':∃ B,LOk m' B
 sub:∀ k b,G k=some b->G' k=some b/\ρ k=k
 at':∀ p∈m,∃ c,hpL G' m' (ρ p.1)=some c/\∀ r,c.obj r=(p.2.rn ρ).obj r
 inj:∀ k∈ak m,∀ l∈ak m,ρ k=ρ l->k=l
 far:∀ k∈ak m,∀ l b,G l=some b->ρ k≠l
theorem MvG.dom {m m':bS} {ρ:cI} (h:MvG G G' m m' ρ) {k:Nat} (hk:Gy.dom (hpL G m) k):Gy.dom (hpL G' m') (ρ k):=by
 unfold Gy.dom at hk
 cases hb:hpL G m k with
 | none=>exact absurd hb hk
 | some b =>
  rcases cB hb with h1|h1
  ·obtain ⟨c,h2,_⟩:=h.at' (k,b) h1;unfold Gy.dom;rw [show hpL G' m' (ρ k)=some c from h2];simp
  ·obtain ⟨h2,h3⟩:=h.sub k b h1;obtain ⟨B,ok'⟩:=h.ok';unfold Gy.dom;rw [h3,ok'.low k (h.gf k b h1).1,h2];simp
theorem MvG.run {m m':bS} {ρ:cI} (h:MvG G G' m m' ρ) (mM:∀ k b,hpL G m k=some b->b.ids (Gy.dom (hpL G m))) {r:cI} {W:World} (hg:GOK G' W) (hs:Sat r (Gy.dom (hpL G' m')) (hpL G' m') W) (hi:Inj r (Gy.dom (hpL G' m'))) (hl:∀ k,k<100->Gy.dom (hpL G' m') k->r k=k) :
  GOK G W/\Sat (λk=>r (ρ k)) (Gy.dom (hpL G m)) (hpL G m) W/\Inj (λk=>r (ρ k)) (Gy.dom (hpL G m))/\(∀ k,k<100->Gy.dom (hpL G m) k->r (ρ k)=k):=by
 obtain ⟨B',ok'⟩:=h.ok';obtain ⟨B,ok⟩:=h.ok;have hG:GOK G W:=λk b hk=>hg k b (h.sub k b hk).1
 have key:∀ k,Gy.dom (hpL G m) k->(k∈ak m/\100<=k)\/(∃ b,G k=some b/\k<100/\ρ k=k):=λk hk=>by
  unfold Gy.dom at hk
  cases hb:hpL G m k with
  | none=>exact absurd hb hk
  | some b =>
   rcases cB hb with h1|h1
   ·exact .inl ⟨aI.2 ⟨_,h1,rfl⟩,(ok.big _ h1).1⟩
   ·exact .inr ⟨b,h1,(h.gf k b h1).1,(h.sub k b h1).2⟩
 refine ⟨hG,λk b hk=>⟨?_,mM k b hk⟩,λk l hk zu e=>?_,λk hk hd=>?_⟩
 ·rcases cB hk with h1|h1
  ·obtain ⟨c,h2,h3⟩:=h.at' (k,b) h1;rw [(hs _ c h2).1,h3 r,Blk.rn_obj]
  ·obtain ⟨h2,h3⟩:=h.sub k b h1;have h4:=(h.gf k b h1).1;have h5:hpL G' m' k=some b:=by rw [ok'.low k h4,h2]
   have:=(hs k b h5).1;show W.heap[r (ρ k)]? = _;rw [h3,this];exact congrArg some (Blk.obj_congr (D:=λ_=>False) (λ_ hf=>hf.elim) (Blk.flat_ids (h.gf k b h1).2))
 ·have e2:ρ k=ρ l:=hi _ _ (h.dom hk) (h.dom zu) e;rcases key k hk with ⟨k1,_⟩|⟨b,k1,_,k2⟩<;>rcases key l zu with ⟨l1,_⟩|⟨c,l1,_,l2⟩
  ·exact h.inj k k1 l l1 e2
  ·exact absurd (e2.trans l2) (h.far k k1 l c l1)
  ·exact absurd (e2.symm.trans k2) (h.far l l1 k b k1)
  ·rw [<-k2,<-l2,e2]
 ·rcases key k hd with ⟨_,k1⟩|⟨b,k1,k3,k2⟩
  ·omega
  ·have:=hl k hk (by have:=h.dom hd;rwa [k2] at this);rw [k2,this]
theorem Fun.mvG {f:FuncId} {args fL:bV} {m m' ws:bS} {v:Value} {ρ:cI} (hi:Fun P G f args (hpL G m) (ak m) (.ret v ws)) (h:MvG G G' m m' ρ) (hw:∀ k∈ak ws,ρ k∈ak m') (ea:args.map (ren ρ)=fL) :
  Fun P G' f fL (hpL G' m') (ak m') (.ret (ren ρ v) (rnL ρ ws)):=by
 subst ea;have er:=LOk.rst (m:=m) h.gf;have Z0:=LOk.rst (m:=m') h.gf';obtain ⟨B',ok'⟩:=h.ok';obtain ⟨en,ids,closed,fits,run⟩:=hi;rw [er] at ids closed run;obtain ⟨f1,f2,f3,f4⟩:=fits;rw [er] at f1 f4;refine ⟨en,λx hx=>?_,λk b hb=>?_,⟨?_,λk hk=>?_,λk b c h1 h2=>?_,λp hp1=>?_⟩,λr W fM hZ gu ba=>?_⟩
 ·exact E4
 ·rw [Z0] at hb |-;exact ok'.closed h.gf' k b hb
 ·rw [Z0];exact qV (λk hk=>h.dom hk) f1
 ·obtain ⟨q,hq,rfl⟩:=H3 hk;have h1:=hw q hq;refine ⟨h1,ok'.sub _ h1,?_⟩;obtain ⟨p,hp,e⟩:=aI.1 h1;rw [<-e];exact (ok'.big p hp).1
 ·simp only [rnL,aD,dM] at h1 h2;obtain ⟨p,hp1,e1,rfl⟩:=h1;obtain ⟨q,nc,e2,rfl⟩:=h2;have k1:=f2 p.1 (aI.2 ⟨p,hp1,rfl⟩);have k2:=f2 q.1 (aI.2 ⟨q,nc,rfl⟩);have e3:=h.inj p.1 k1.1 q.1 k2.1 (e1.trans e2.symm);rw [f3 p.1 p.2 q.2 hp1 vH]
 ·simp only [rnL,aD] at hp1;obtain ⟨p,hp1,rfl⟩:=hp1;rw [Z0];exact Blk.ids_rn (λk hk=>h.dom hk) (f4 p hp1)
 ·rw [Z0] at hZ gu ba;obtain ⟨s0,s1,s2,s3⟩:=h.run closed fM hZ gu ba;have eE:=run (λk=>r (ρ k)) W s0 s1 s2 s3
  have ha:(args.map (ren ρ)).map (ren r)=args.map (ren λk=>r (ρ k)):=by
   exact my
  rw [ha];refine eE.mono λe W' ⟨he,ht⟩=>⟨?_,ht.os,ht.tape,ht.output,ht.size,λk hk Lb=>ht.same k hk λp hp1=>?_,λp hp1=>?_,zS,zS⟩
  ·rw [he,jf]
  ·exact F3
  ·simp only [dY,rnL,aD] at hp1;obtain ⟨p,hp1,rfl⟩:=hp1;have hh:=ht.has p oA;refine ⟨by rw [Blk.rn_obj];exact hh.1,?_⟩;rw [Z0];exact Blk.ids_rn (λk hk=>hk.elim (λh1=>.inl (h.dom h1)) (λh1=>.inr (by simp [ak] at h1))) hh.2
theorem FunS.mvG {f:FuncId} {args fL:bV} {m m':bS} {R R':AI} {ρ:cI} (hi:FunS P G f args (hpL G m) (ak m) R) (h:MvG G G' m m' ρ) (ea:args.map (ren ρ)=fL) (eR:RR ρ R=R')
  (TS:∀ v ns,R v ns->∀ k∈ak ns,100<=ρ k/\¬dom (hpL G' m') (ρ k)) (hnj:∀ v ns,R v ns->∀ k∈ak ns,∀ l∈ak ns,ρ k=ρ l->k=l):FunS P G' f fL (hpL G' m') (ak m') R':=by
 subst ea eR;have er:=LOk.rst (m:=m) h.gf;have Z0:=LOk.rst (m:=m') h.gf';obtain ⟨B',ok'⟩:=h.ok';obtain ⟨en,ids,closed,fits,run⟩:=hi;rw [er] at ids closed run fits;have abI:∀ ns,∀ k,cJ (dom (hpL G m)) ns k->cJ (dom (hpL G' m')) (rnL ρ ns) (ρ k):=λns k hk=>hk.elim (λh1=>.inl (h.dom h1)) (λh1=>.inr (Ab h1));refine ⟨en,λx hx=>?_,λk b hb=>?_,λv' ns' Xq=>?_,λr W fM hZ gu ba=>?_⟩
 ·exact E4
 ·rw [Z0] at hb |-;exact ok'.closed h.gf' k b hb
 ·rw [Z0];obtain ⟨v,ns,hR,rfl,rfl⟩:=Xq;obtain ⟨f1,f2,f3,f4⟩:=fits v ns hR;exact Fl
 ·rw [Z0] at hZ gu ba |-;obtain ⟨s0,s1,s2,s3⟩:=h.run closed fM hZ gu ba;have eE:=run (λk=>r (ρ k)) W s0 s1 s2 s3
  have ha:(args.map (ren ρ)).map (ren r)=args.map (ren λk=>r (ρ k)):=by
   exact my
  rw [ha];refine eE.mono λe W' ⟨v,ns,r1,hR,RS,he,ht⟩=>?_;obtain ⟨f1,f2,f3,f4⟩:=fits v ns hR;let r2:Nat->Nat:=λk'=>match (ak ns).find? (λk=>ρ k==k') with|some k=>r1 k|none=>r k'
  have e1:∀ k∈ak ns,r2 (ρ k)=r1 k:=λk hk=>by
   exact Fc
  have e2:∀ k,dom (hpL G' m') k->r2 k=r k:=λk hk=>by
   show (match (ak ns).find? (λl=>ρ l==k) with|some k=>r1 k|none=>r k)=r k
   cases hf:(ak ns).find? (λl=>ρ l==k) with
   | none=>rfl
   | some l =>
    have h1:=u6 hf;have h2:=uV hf;simp only [beq_iff_eq] at h1;exact absurd (h1▸hk) (TS v ns hR l h2).2
  have e3:∀ k,cJ (dom (hpL G m)) ns k->r2 (ρ k)=r1 k:=λk hk=>hk.elim (λh1=>by rw [e2 _ (h.dom h1),RS k h1]) (λh1=>e1 k h1);refine ⟨ren ρ v,rnL ρ ns,r2,⟨v,ns,hR,rfl,rfl⟩,e2,?_,ht.os,ht.tape,ht.output,ht.size,λk hk Lb=>ht.same k hk zS,λp hp1=>?_,λp hp1=>?_,λp hp1 q nc VB=>?_⟩
  ·rw [he,jf];exact congrArg _ (jg (D:=cJ (dom (hpL G m)) ns) (λk hk=>(e3 k hk).symm) f1)
  ·exact FU
  ·exact Ek
  ·exact FX
end
@[simp] theorem rg1:Array.range 1=#[0]:=rfl
@[simp] theorem rg2:Array.range 2=#[0,1]:=rfl
@[simp] theorem rg3:Array.range 3=#[0,1,2]:=rfl
@[simp] theorem rg4:Array.range 4=#[0,1,2,3]:=rfl
@[simp] theorem rg5:Array.range 5=#[0,1,2,3,4]:=rfl
@[simp] theorem rg6:Array.range 6=#[0,1,2,3,4,5]:=rfl
@[simp] theorem axA:Array.range 20=#[0,1,2,3,4,5,6,7,8,9,10,11,12,13,14,15,16,17,18,19]:=rfl
@[simp] theorem axB:Array.range 36=#[0,1,2,3,4,5,6,7,8,9,10,11,12,13,14,15,16,17,18,19,20,21,22,23,24,25,26,27,28,29,30,31,32,33,34,35]:=rfl
section
variable {P:Program} {G:Hp} {V:XV} {yc nk:Nat} {ts:eM} {hp:Hp} {C:Eff->Prop} {dst:Option Tmp} {type:TypeId} {pos:String} {after:Array Edge} {guard:Option (Nat×Bool)}
def bsZ (e len m nk:Nat) (ps:List (Nat×Value)) (z:Option Value) (C:Eff->Prop):Prop :=
 match z with
 | some z=>cw z=true/\bz z=true/\0<len*m/\len*m<=16777216/\bsX (n6 (.inr m) ((Array.range (len*m)).map (z.cells[·%z.cells.size]!)) ps) e len nk C
 | none=>False
@[simp] theorem akP (e len m nk:Nat) (ps:List (Nat×Value)) (z:Value) (C:Eff->Prop):bsZ e len m nk ps (some z) C=(cw z=true/\bz z=true/\0<len*m/\len*m<=16777216/\bsX (n6 (.inr m) ((Array.range (len*m)).map (z.cells[·%z.cells.size]!)) ps) e len nk C):=rfl
def bsM (P:Program) (e len nk:Nat) (ps:List (Nat×Value)) (m:Option Nat) (C:Eff->Prop):Prop :=
 match m with
 | some m=>bsZ e len m nk ps (cT P e) C
 | none=>False
@[simp] theorem akM (P:Program) (e len m nk:Nat) (ps:List (Nat×Value)) (C:Eff->Prop):bsM P e len nk ps (some m) C=bsZ e len m nk ps (cT P e) C:=rfl
def bsU (P:Program) (len nk:Nat) (ps:List (Nat×Value)) (u:Option TypeDesc) (C:Eff->Prop):Prop :=
 match u with
 | some (.slice e)=>bsM P e len nk ps (bA P e) C
 | _=>False
@[simp] theorem akN (P:Program) (e len nk:Nat) (ps:List (Nat×Value)) (C:Eff->Prop):bsU P len nk ps (some (.slice e)) C=bsM P e len nk ps (bA P e) C:=rfl
@[simp ↓] theorem Yz (T:TypeId) (len:Nat) (parts:Array (Nat×Operand)):opX P G V yc ⟨dst,.buildSlice T len parts,type,pos,after,guard⟩ ts hp nk C =
  ((∀ p∈parts.toList,okX ts hp p.2/\cw (gev ts p.2)=true)/\bsU P len nk (kY ts parts) (P.underlying T) C):=by
 unfold opX bsU;simp only
 cases hu:P.underlying T with
 | none=>rfl
 | some u =>
  cases u with
  | slice e =>
   simp only [bsM]
   cases hm:bA P e with
   | none=>rfl
   | some m =>
    simp only [bsZ]
    cases hz:cT P e with
    | none=>rfl
    | some z =>
     simp only;cases hf:n6 (.inr m) ((Array.range (len*m)).map (z.cells[·%z.cells.size]!)) (kY ts parts)<;>rfl
  | _=>rfl
@[simp] theorem apg (e m:Nat) (z:Value) (b:Nat) (l:Int) (w:Value) (C:Eff->Prop):msZ P e m nk (some z) (some b) (.int .i64 l) w C=(w=.int .i64 l/\cw z=true/\bz z=true/\(0<l/\l<=4096)/\b<=4096/\0<m/\C ⟨.slice (some ⟨nk,0,none⟩) l.toNat l.toNat,[],[],[(nk,⟨(Array.range (l.toNat*m)).map (z.cells[·%z.cells.size]!),e⟩)],none,false⟩):=rfl
@[simp] theorem amO (e m:Nat) (v w:Value) (C:Eff->Prop):msM P e nk (some m) v w C=msZ P e m nk (cT P e) (tyB P e) v w C:=rfl
@[simp] theorem ajL (e:Nat) (v w:Value) (C:Eff->Prop):msU P nk (some (.slice e)) v w C=msM P e nk (bA P e) v w C:=rfl
@[simp ↓] theorem aak (T:TypeId) (x y:Operand):opX P G V yc ⟨dst,.makeSlice T x y,type,pos,after,guard⟩ ts hp nk C=(okX ts hp x/\okX ts hp y/\msU P nk (P.underlying T) (gev ts x) (gev ts y) C):=nr rfl
end
end Go.Gy
namespace Go.Gy
open Go Go.RowKit Go.Proofs Go.Proofs.Tryz
theorem kM {p:Prop} (h:p:=by simp [tG,ak]):p:=h
theorem wx {p:Prop} (h:p:=by simp [tG,aF,aL,aR,ak]):p:=h
theorem En {p:Prop} (h:p:=by
 refine ⟨zS,by simp [results103],by first|(simp;omega)|omega,λk hk=>?_⟩;have hk:=cA k hk;simp (disch:=omega) only [aj]
 rfl):p:=h
theorem Gd {p:Prop} (h:p:=by
 refine ⟨zS,by simp [results103],zS,λk hk=>?_⟩;have hk:=cA k hk;simp (disch:=omega) only [aj]
 rfl):p:=h
def vf (x0 x1 x2:Int):Nat->Int
 | 0=>x0
 | 1=>x1
 | _=>x2
def vf2 (x0 x1 x2 y0 y1 y2:Int):Nat->Int
 | 0=>x0
 | 1=>x1
 | 2=>x2
 | 3=>y0
 | 4=>y1
 | _=>y2
def xsV (N:Nat) (f:aS):List (Array Value):=(List.range N).map λj=>#[.int .i64 ((j%3:Nat):Int),.int .i64 (f j)]
theorem Bu (N:Nat) (f:aS) (i:Nat) (h:i<N):(xsV N f)[i]? = some #[.int .i64 ((i%3:Nat):Int),.int .i64 (f i)]:=by simp [xsV,h]
theorem tQ (b k m c:Nat) (cs:bV) (K8:∀ x∈cs,bP x=true) (hb:100<=b) (mU:b<100000) (hk:100<=k) (hbk:b≠k):Fun prog G0 74 #[.slice (some ⟨b,0,none⟩) m c] (hpL G0 [(b,⟨cs,.ty 48⟩)]) [b] (.new (.func (.func 103) #[] #[.pointer (some ⟨k,0,none⟩)]) [(k,⟨#[.slice (some ⟨b,0,none⟩) m c],.ty 58⟩)]):=by
 have e0:rst (hpL G0 [(b,⟨cs,.ty 48⟩)]) [b]=hpL G0 [(b,⟨cs,.ty 48⟩)]:=kR G0F zS
 have agv:∀ j,dom (hpL G0 [(b,⟨cs,.ty 48⟩)]) j->j=b\/j<100:=λj hj=>by
  unfold dom at hj
  cases hq:hpL G0 [(b,⟨cs,.ty 48⟩)] j with
  | none=>exact absurd hq hj
  | some q =>
   rcases cB hq with h|h
   ·simp at h;exact .inl h.1
   ·exact .inr (G0F j q h).1
 have hdb:dom (hpL G0 [(b,⟨cs,.ty 48⟩)]) b:=by unfold dom;simp
 refine Ih (B:=100000) (λj=>if j=k then 100000 else j) G0F (λj hj=>cD aE hj) func74 rfl call74 ?_ ?_ ?_ (by simp [ntmps74]) zO ?_ (λj hj=>?_) ?_ ?_ ?_ ?_
 ·rw [e0];simp [aN,cp,aL,aR];exact hdb
 ·rw [e0];intro j q hq;rcases cB hq with h|h
  ·simp at h;rw [h.2];exact Blk.flat_ids K8
  ·exact oT
 ·exact xm
 ·rw [e0];intro x hx;simp [(zO:¬x=b),(zO:100<=x)]
 ·rw [e0] at hj;rcases agv j hj with h|h
  ·rw [ab zO]
  ·rw [ab zO]
 ·rw [e0];intro p hp;simp at hp;subst hp;refine ⟨λh=>?_,zS⟩;rcases agv _ h with h|h<;>simp at h<;>omega
 ·simp
 ·rw [e0];simp [aL,aR];exact hdb
 ·intro C hC bQ hY;rw [e0];have hbB:¬b=100000:=zO;have hBb:¬100000=b:=zO;refine dy (k3 hbB hBb hbk) ?_;refine ⟨.inr trivial,?_⟩;simp [results74,ren,aT,aw,aA];intro j hj;rcases agv j hj with h|h
  ·have:¬j=100000:=zO;simp [this]
  ·have:¬j=100000:=zO;simp [this]
def tG (x0 x1 x2:Int):List (Nat×Blk):=[(100,⟨#[.slice (some ⟨108,0,none⟩) 1 1],.ty 58⟩),(108,⟨#[.int .i64 x0,.int .i64 x1,.int .i64 x2],.ty 48⟩)]
abbrev pv1 (x0 x1 x2:Int):Hp:=hpL G0 (tG x0 x1 x2)
theorem qZ (x0 x1 x2:Int):IterK prog G0 103 #[.pointer (some ⟨100,0,none⟩)] (pv1 x0 x1 x2) [100,108] (xsV 3 (vf x0 x1 x2)):=by
 have hL:LOk (tG x0 x1 x2) 200:=⟨by simp [tG],kM,wx⟩
 have cA:∀ k,dom (hpL G0 (tG x0 x1 x2)) k->k<200:=λk hk=>aO λh1=>hk (hL.free G0F zO k zO);refine jO (m:=tG x0 x1 x2) (B:=200) (v:=.tuple #[]) G0F func103 rfl call103 hL ?_ (by simp [ntmps103]) zO ?_
 ·simp [aN,cp,aL,aR,tG,ak]
 ·intro C l stop hC bQ hY;have yy:xsV 3 (vf x0 x1 x2)=[#[.int .i64 0,.int .i64 x0],#[.int .i64 1,.int .i64 x1],#[.int .i64 2,.int .i64 x2]]:=rfl;rw [yy] at hY |-;by_cases h3:3<=stop
  ·have q0:(0 != stop)=true:=by simp;omega
   have q1:(1 != stop)=true:=aE;have q2:(2 != stop)=true:=aE;have l1:1<=stop:=zO;have l2:2<=stop:=zO;refine vj (k7 @tG.eq_1 q0 q1 q2 l1 l2 h3) ?_;exact En
  ·have:stop=0\/stop=1\/stop=2:=zO;rcases this with rfl|rfl|rfl
   all_goals
    refine vj @tG.eq_1 ?_
   all_goals
    exact Gd
theorem QY (x0 x1 x2:Int):pD prog G0 103 #[.pointer (some ⟨100,0,none⟩)] (pv1 x0 x1 x2) [100,108] (xsV 3 (vf x0 x1 x2)):=(qZ x0 x1 x2).g
def Jr (x0 x1 x2 y0 y1 y2:Int):List (Nat×Blk):=[(100,⟨#[.slice (some ⟨108,0,none⟩) 2 2],.ty 58⟩),(108,⟨#[.int .i64 x0,.int .i64 x1,.int .i64 x2,.int .i64 y0,.int .i64 y1,.int .i64 y2],.ty 48⟩)]
abbrev pv2 (x0 x1 x2 y0 y1 y2:Int):Hp:=hpL G0 (Jr x0 x1 x2 y0 y1 y2)
theorem Ox (x0 x1 x2 y0 y1 y2:Int):IterK prog G0 103 #[.pointer (some ⟨100,0,none⟩)] (pv2 x0 x1 x2 y0 y1 y2) [100,108] (xsV 6 (vf2 x0 x1 x2 y0 y1 y2)):=by
 have hL:LOk (Jr x0 x1 x2 y0 y1 y2) 200:=⟨by simp [Jr],by simp [Jr,ak],by simp [Jr,aF,aL,aR,ak]⟩
 have cA:∀ k,dom (hpL G0 (Jr x0 x1 x2 y0 y1 y2)) k->k<200:=λk hk=>aO λh1=>hk (hL.free G0F zO k zO);refine jO (m:=Jr x0 x1 x2 y0 y1 y2) (B:=200) (v:=.tuple #[]) G0F func103 rfl call103 hL ?_ (by simp [ntmps103]) zO ?_
 ·simp [aN,cp,aL,aR,Jr,ak]
 ·intro C l stop hC bQ hY;have yy:xsV 6 (vf2 x0 x1 x2 y0 y1 y2)=[#[.int .i64 0,.int .i64 x0],#[.int .i64 1,.int .i64 x1],#[.int .i64 2,.int .i64 x2],#[.int .i64 0,.int .i64 y0],#[.int .i64 1,.int .i64 y1],#[.int .i64 2,.int .i64 y2]]:=rfl;rw [yy] at hY |-;by_cases h6:6<=stop
  ·have q0:(0 != stop)=true:=by simp;omega
   have q1:(1 != stop)=true:=aE;have q2:(2 != stop)=true:=aE;have q3:(3 != stop)=true:=aE;have q4:(4 != stop)=true:=aE;have q5:(5 != stop)=true:=aE;have l1:1<=stop:=zO;have l2:2<=stop:=zO;have l3:3<=stop:=zO;have l4:4<=stop:=zO;have l5:5<=stop:=zO;refine vj (k13 @Jr.eq_1 q0 q1 q2 q3 q4 q5 l1 l2 l3 l4 l5 h6) ?_;exact En
  ·have:stop=0\/stop=1\/stop=2\/stop=3\/stop=4\/stop=5:=zO;rcases this with rfl|rfl|rfl|rfl|rfl|rfl
   all_goals
    refine vj @Jr.eq_1 ?_
   all_goals
    exact Gd
end Go.Gy
namespace Go.Gy
open Go Go.RowKit Go.Proofs
def wl (z:Int):List Value:=[.int .u64 (wi z 0),.int .u64 (wi z 1),.int .u64 (wi z 2),.int .u64 (wi z 3)]
@[simp] theorem asO (z:Int):(wl z).length=4:=rfl
end Go.Gy
namespace Go.Gy
abbrev qB := @Int.mul_ediv_add_emod
abbrev qM := @Int.mul_add_ediv_left
abbrev qD := @Int.le_refl
def eo (a b:Int):Int:=if b<2*(a%b)\/(2*(a%b)=b/\0<=a / b) then a / b+1 else a / b
theorem Ke {a b:Int} (hb:0<b) (h:0<=a):eo a b=(2*a+b) / (2*b):=by
 have h1:=qB a b;have h2:=cy a (zO:b≠0);have h3:=cE a hb;have h4:=gQ h (dh hb);unfold eo;generalize a%b=r at *
 generalize a / b=q at *
 subst h1;have e:2*(b*q+r)+b=2*b*q+(2*r+b):=by rw [fh,<-ca];omega
 rw [e,qM _ _ zO];split
 ·rename_i hc
  rw [show (2*r+b) / (2*b)=1 from by
   rw [(zO:2*r+b=2*b*1+(2*r - b)),qM _ _ zO,fR zO zO];rfl]
 ·rename_i hc;rw [fR zO zO];omega
theorem Ie {a b:Int} (hb:0<b) (h:a<0):eo a b=-((2*-a+b) / (2*b)):=by
 have h1:=qB a b;have h2:=cy a (zO:b≠0);have h3:=cE a hb;have h4:a / b<0:=Int.ediv_neg_of_neg_of_pos h hb;unfold eo;generalize a%b=r at *
 generalize a / b=q at *
 subst h1;have e:2*-(b*q+r)+b=2*b*(-q)+(b - 2*r):=by rw [qj (2*b) q,ca];omega
 rw [e,qM _ _ zO];split
 ·rename_i hc
  rw [show (b - 2*r) / (2*b)=-1 from by
   rw [(zO:b - 2*r=2*b*(-1)+(3*b - 2*r)),qM _ _ zO,fR zO zO];rfl]
  omega
 ·rename_i hc;rw [fR zO zO];omega
theorem Uk {a b:Int} (hb:0<b):eo (-a) b=-eo a b:=by
 by_cases h0:a=0
 ·subst h0;simp [eo];omega
 ·by_cases h:a<0
  ·rw [Ie hb h,Ke hb (zO:0<=-a)];omega
  ·rw [Ke hb (zO:0<=a),Ie hb (zO:-a<0),Int.neg_neg]
theorem Ig {a b:Int} (hb:0<b):-b<=2*(a - eo a b*b)/\2*(a - eo a b*b)<=b/\(2*(a - eo a b*b)=b->eo a b<=0)/\(2*(a - eo a b*b)=-b->0<=eo a b):=by
 have h1:=qB a b;have h2:=cy a (zO:b≠0);have h3:=cE a hb;unfold eo;generalize a%b=r at *
 generalize a / b=q at *
 subst h1;split
 ·rename_i hc;have e:b*q+r - (q+1)*b=r - b:=by rw [fV,cF q b];omega
  rw [e];omega
 ·rename_i hc;have e:b*q+r - q*b=r:=by rw [cF q b];omega
  rw [e];omega
theorem Ic {a b c:Int} (hc:0<c) (h:a<=b):eo a c<=eo b c:=by
 by_cases Xr:a=b
 ·subst Xr;exact qD _
 refine aO λhn=>?_;obtain ⟨a1,_,_,_⟩:=Ig (a:=a) hc;obtain ⟨_,b2,_,_⟩:=Ig (a:=b) hc;generalize eo a c=x at *
 generalize eo b c=y at *
 have e:(y+1)*c<=x*c:=gM zO zO;rw [fV,Int.one_mul] at e;omega
theorem Qh {v d:Int} (hd:0<d):eo (v*d) d=v:=by
 unfold eo;rw [j9,j7 _ zO];split<;>omega
theorem Yn {a b p:Int} (hb:0<b) (h0:-p<=a) (h1:a<=p) (hp:0<=p):-p<=eo a b/\eo a b<=p:=by
 have e1:=Ic hb h1;have e2:=Ic hb h0
 have e3:eo p b<=p:=by
  refine dq (Ic hb (show p<=p*b from ?_)) (by rw [Qh hb];exact qD _)
  calc p=p*1:=(qI p).symm
   _<=p*b:=iG zO hp
 have e4:=Uk (a:=p) hb;omega
end Go.Gy
namespace Go.Gy
open Go Go.RowKit Go.Proofs Go.Proofs.Tryz
theorem gX {p:Prop} (h:p:=by simp [jb]):p:=h
theorem EU {p:Prop} (h:p:=by
 refine dy (k10 @hp2.eq_1 @wb.eq_1 BR hq s1 s2 s3 n1 n2 hc) ?_;refine ⟨.inr rfl,by simp [results176],λk hk=>?_⟩;have yZ:k<300:=aO λh=>hk (pJ a b k zO);simp (disch:=omega) only [G8]
 rfl):p:=h
theorem Fa {p:Prop} (h:p:=by
 refine dy (k12 @hp2.eq_1 @wb.eq_1 BR hq s1 s2 s3 s4 n1 n2 hc hs) ?_;refine ⟨.inr rfl,by simp [results176],λk hk=>?_⟩;have yZ:k<300:=aO λh=>hk (pJ a b k zO);simp (disch:=omega) only [G8]
 rfl):p:=h
def sm (z:Int):Prop:=-1329227995784915872903807060280344576<=z/\z<=1329227995784915872903807060280344576
theorem sm.wr {z:Int} (h:sm z):wr z:=⟨dq zD h.1,nZ h.2 zD⟩
theorem sm.lst {z:Int} (h:sm z):z≠lst:=λe=>by rw [e] at h;exact absurd h.1 zD
theorem sm.sz {z:Int} (h:sm z):sz z=z:=nf h.wr
theorem sm.up {z:Int} (h:sm z):Gy.wr (z+1):=⟨dq zD (dq h.1 (Int.le_add_one (qD _))),nZ (Int.add_le_add_right h.2 1) zD⟩
theorem i64.sm {z:Int} (h:i64 z):sm z:=⟨dq zD h.1,dq (dh h.2) zD⟩
theorem Tw {a b:Int} (h:a<b):gG a b=-1:=rL
theorem Tx (a:Int):gG a a=0:=rL
theorem JE {a b:Int} (h:b<a):gG a b=1:=rL
theorem asF (q:Int) (h:sm q):Ret prog G0 181 #[wd q,.bool true] (wd (q+1)):=by
 refine ck G0F func181 rfl call181 zS zS (by simp [ntmps181]) ?_;intro C hC bQ hY;have i1:=RT;have n1:ng 1=false:=Bh kI zD;by_cases h0:q<0
 ·have n2:=ahw h.wr h0;refine dy (k3 i1 n1 n2) ?_;exact eR results181
 ·have n2:=Bh h.wr zO;have n3:=Bh h.up zO;refine dy (k4 i1 n1 n2 n3) ?_;exact eR results181
theorem asE (q:Int):Ret prog G0 181 #[wd q,.bool false] (wd q):=by
 refine ck G0F func181 rfl call181 zS zS (by simp [ntmps181]) ?_;intro C hC bQ hY;refine fO ?_;exact eR results181
@[simp] theorem auk (q:Int) (h:sm q) (K:iQ):cu prog G0 181 #[Value.agg #[.int .u64 (wi (q) 0),.int .u64 (wi (q) 1),.int .u64 (wi (q) 2),.int .u64 (wi (q) 3)],.bool true] K↔K (wd (q+1)):=aP G0W ae (asF q h)
@[simp] theorem auj (q:Int) (K:iQ):cu prog G0 181 #[Value.agg #[.int .u64 (wi (q) 0),.int .u64 (wi (q) 1),.int .u64 (wi (q) 2),.int .u64 (wi (q) 3)],.bool false] K↔K (wd q):=aP G0W ae (asE q)
theorem aij {a b:Int} (ha:sm a) (hb:0<b):sm (a / b):=by
 have h1:=Int.ediv_le_ediv hb ha.1;have h2:=Int.ediv_le_ediv hb ha.2;have h3:(1329227995784915872903807060280344576:Int) / b<=1329227995784915872903807060280344576:=uO _ zD
 have h4:-1329227995784915872903807060280344576<=(-1329227995784915872903807060280344576:Int) / b:=by
  rw [uF hb];have:(-1329227995784915872903807060280344576:Int)*b<=-1329227995784915872903807060280344576*1:=Int.mul_le_mul_of_nonpos_left zD hb;omega
 exact ⟨dq h4 h1,dq h2 h3⟩
theorem Uj (a b:Int) (ha:sm a) (hB:sm b) (h0:0<b):Fun prog G0 176 [.pointer (some ⟨200,0,none⟩),.pointer (some ⟨208,0,none⟩)].toArray (hp2 a b) [200,208] (.ret (wd (eo a b)) []):=by
 refine pH (B:=300) G0F (λk hk=>cD zS hk) func176 rfl call176 ?_ ?_ ⟨cb zS,ah,zS,zS⟩ (by simp [ntmps176]) zO ?_ ?_
 ·rw [nG];simp [hp2,dom]
 ·exact wh
 ·rw [nG];exact pJ a b
 ·intro C hC bQ hY;rw [nG] at bQ |-;have haw:=ha.wr;have MR:=ha.lst;have hBw:=hB.wr;have hq:=aij ha h0;have r0:=cy a (zO:b≠0);have r1:=cE a h0;have hr:sm (a%b):=⟨dq zD r0,dq (dh r1) hB.2⟩
  have Vq:sm (b - a%b):=⟨dq zD (zO:0<=b - a%b),dq (zO:b - a%b<=b) hB.2⟩
  have s1:=hr.sz;have s2:=Vq.sz;have s3:gG (sz b) 0=1:=by rw [hB.sz];exact JE h0
  have s4:=hq.sz;have n1:=Bh hBw zO;have n2:=Bh hr.wr r0;have nq:eo a b=if b<2*(a%b)\/(2*(a%b)=b/\0<=a / b) then a / b+1 else a / b:=rfl
  have BR:=ah0 a b haw MR hBw h0;rw [nq];generalize a%b=r at *
  generalize a / b=q at *
  clear nq;by_cases c1:b<2*r
  ·have hc:gG r (b - r)=1:=JE zO;rw [ai (.inl c1)];exact EU
  ·by_cases c2:2*r=b
   ·have hc:gG r (b - r)=0:=by rw [(zO:b - r=r)];exact Tx r
    by_cases c3:0<=q
    ·have hs:0<=gG q 0:=by unfold gG;split<;>(try split)<;>omega
     rw [ai (.inr ⟨c2,c3⟩)];exact Fa
    ·have hs:¬0<=gG q 0:=by unfold gG;split<;>(try split)<;>omega
     rw [ab zO];exact Fa
   ·have hc:gG r (b - r)=-1:=Tw zO;rw [ab zO];exact EU
theorem UH (a b:Int) (ha:sm a) (hB:sm b) (h0:0<b):Ret prog G0 159 #[wd a,wd b] (.tuple #[wd (eo a b),.int .i64 0]):=by
 refine ck G0F func159 rfl call159 zS zS (by simp [ntmps159]) ?_;intro C hC bQ hY
 repeat' first|refine cM ?_|((first|refine gwR [157] ?_|refine gwD [157] ?_);intro Q hQ _;(repeat first|simp [hC,hY]|refine eX (db:=hp2 a b) (Bm (λk hk=>cD zS hk) zS rfl zS (Uj a b ha hB h0)) (by simp [hp2,wb]) (λk hk=>cD zS hk) trivial ?_);refine cQ hQ ?_)|fail
 exact eR results159
@[simp] theorem auf (a b:Int) (ha:sm a) (hB:sm b) (h0:0<b) (K:iQ):cu prog G0 159 #[Value.agg #[.int .u64 (wi (a) 0),.int .u64 (wi (a) 1),.int .u64 (wi (a) 2),.int .u64 (wi (a) 3)],Value.agg #[.int .u64 (wi (b) 0),.int .u64 (wi (b) 1),.int .u64 (wi (b) 2),.int .u64 (wi (b) 3)]] K↔K (.tuple #[wd (eo a b),.int .i64 0]):=aP G0W ae (UH a b ha hB h0)
def jb (n:Int):Blk:=⟨#[.int .i64 n],.ty 3⟩
def inL (a b c:Int) (k:Blk):List (Nat×Blk):=[(200,jb a),(208,jb b),(216,jb c),(224,k)]
def GD (a b c:Int):Hp:=hpL G0 (inL a b c (jb 0))
theorem z6 (a b c:Int):rst (GD a b c) [200,208,216,224]=GD a b c:=kR G0F (by simp [inL])
theorem Nb (a b c:Int) (D:gA) (k:Nat) (x:Blk) (h:GD a b c k=some x):x.ids D:=by
 rcases cB h with h|h
 ·simp [inL] at h;rcases h with ⟨_,rfl⟩|⟨_,rfl⟩|⟨_,rfl⟩|⟨_,rfl⟩<;>simp [jb]
 ·exact oT
theorem J4 (a b c:Int) (x:Nat) (hx:300<=x):GD a b c x=none:=by
 simp [GD,inL,(zO:¬x=200),(zO:¬x=208),(zO:¬x=216),(zO:¬x=224),(zO:100<=x)]
theorem TZ (a b c:Int) (ha:i64 a) (hB:i64 b) (hc:i64 c) (Xr:sm (a*b)) (h0:0<c) (hq:i64 (eo (a*b) c)):Fun prog G0 158 [.pointer (some ⟨200,0,none⟩),.pointer (some ⟨208,0,none⟩),.pointer (some ⟨216,0,none⟩),.pointer (some ⟨224,0,none⟩)].toArray (GD a b c) [200,208,216,224] (.ret (wd (eo (a*b) c)) [(224,jb (eo (a*b) c))]):=by
 refine pH (B:=300) G0F (λk hk=>cD (by simp [inL]) hk) func158 rfl call158 ?_ ?_ ⟨cb zS,by simp [ak,GD,inL,dom],λk b c e1 e2=>by simp at e1 e2;rw [e1.2,e2.2],gX⟩ (by simp [ntmps158]) zO ?_ ?_
 ·rw [z6];simp [GD,inL,dom]
 ·rw [z6];exact Nb a b c _
 ·rw [z6];exact J4 a b c
 ·intro C hC bQ hY;rw [z6] at bQ |-;have s1:=ha.sm.sz;have s2:=hB.sm.sz;have s3:=hq.sm.sz;have K8:=hc.sm;have hm:Ae a b=false:=by unfold Ae;rw [s1,s2];simp only [decide_eq_false_iff_not,Classical.not_not];exact Xr.wr
  refine dy (k14 @GD.eq_1 @inL.eq_1 @jb.eq_1 ha hB hc Xr h0 hq s1 s2 s3 K8 hm) ?_;refine ⟨.inr rfl,by simp [results158],λk hk=>?_⟩;have yZ:k<300:=aO λh=>hk (J4 a b c k zO);by_cases e:k=224
  ·subst e;simp [bW,jb]
  ·simp only [bW];simp (disch:=omega) only [aj];simp [GD,inL,jb]
theorem UG (a b c:Int) (ha:i64 a) (hB:i64 b) (hc:i64 c) (Xr:sm (a*b)) (h0:0<c) (hq:i64 (eo (a*b) c)):Ret prog G0 144 #[.int .i64 a,.int .i64 b,.int .i64 c] (.tuple #[.int .i64 (eo (a*b) c),.int .i64 0]):=by
 refine ck G0F func144 rfl call144 zS zS (by simp [ntmps144]) ?_;intro C hC bQ hY
 repeat' first|refine cM ?_|((first|refine gwR [157] ?_|refine gwD [157] ?_);intro Q hQ _;(repeat first|simp [hC,hY,jb]|refine eX (db:=GD a b c) (Bm (λk hk=>cD (by simp [inL]) hk) zS rfl zS (TZ a b c ha hB hc Xr h0 hq)) (by simp [GD,inL,jb]) (λk hk=>cD (by simp [inL]) hk) trivial ?_);refine cQ hQ ?_)|fail
 exact eR results144
@[simp] theorem aue (a b c:Int) (ha:i64 a) (hB:i64 b) (hc:i64 c) (Xr:sm (a*b)) (h0:0<c) (hq:i64 (eo (a*b) c)) (K:iQ):cu prog G0 144 #[.int .i64 a,.int .i64 b,.int .i64 c] K↔K (.tuple #[.int .i64 (eo (a*b) c),.int .i64 0]):=aP G0W ae (UG a b c ha hB hc Xr h0 hq)
end Go.Gy
